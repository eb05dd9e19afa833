/- Contract of the reference's Format. Printed by gen_eve2.py. -/
import Derived.Test.YtaikmgnpfbnjjaaGreatDoorPw04
import Derived.Test.YtaikmgnpfbnjjaaGreatDoorEvc1
import Derived.Test.YtaikmgnpfbnjjaaGreatDoorEve1
import Derived.Test.YtaikmgnpfbnjjaaGreatDoorPv08
import Derived.Test.YtaikmgnpfbnjjaaGreatDoorPv14
import Derived.Test.YtaikmgnpfbnjjaaGreatDoorPv17
namespace Go.Proofs.YtaikmgnpfbnjjaaGreatDoor.Ev
open Go.ChangeShapes Go.WideShapes Go.ChangeAt Go.RowKit Gn Cat Lex Ros Se
set_option linter.unusedVariables false
set_option linter.unusedSimpArgs false
theorem rsale_text (t : ByteArray) (h : t.size ≤ 5000) (hn : t.size - 1 < t.size) (hx : t[t.size - 1]'hn = 10) (W : World) : Calls Tryz.prog 50 #[.string (t.extract 0 (t.size - 1)), .int .u8 10, .int .u8 59] W (StrPost (ofL (replL 10 59 (Lib.trimSuffix t.data.toList [10]))) W) := by
  rw [trim_last (t := t) (by omega) hx]
  exact replaced_any (t.extract 0 (t.size - 1)) 10 59 W (by rw [ByteArray.size_extract]; omega)
theorem u8_ne {x c : UInt8} {n : Int} (hn : n = (c.toNat : Int)) (h : x ≠ c) : ((x.toNat : Int) == n) = false := beq_eq_false_iff_ne.2 (fun e => h (UInt8.toNat_inj.1 (by omega)))
theorem u8_bne {x c : UInt8} {n : Int} (hn : n = (c.toNat : Int)) (h : x ≠ c) : ((x.toNat : Int) != n) = true := bne_iff_ne.2 (fun e => h (UInt8.toNat_inj.1 (by omega)))
/-- a word is put behind a line and a space -/
theorem add_word2 (a x : ByteArray) (ha : a.size ≤ 20000) (hx : x.size ≤ 20000) : ∃ t o : ByteArray, (∀ W, (Op.stringOp .add a ⟨#[32]⟩).run Tryz.prog W = .ok (.string t) W) ∧ (∀ W, (Op.stringOp .add t x).run Tryz.prog W = .ok (.string o) W) ∧ o = line2 a x ∧ o.size ≤ a.size + 1 + x.size := by
  have hl : (a ++ ⟨#[32]⟩) ++ x = line2 a x := (cat_assoc a ⟨#[32]⟩ x).symm
  refine ⟨a ++ ⟨#[32]⟩, line2 a x, fun W => add_s _ _ (by show a.size + 1 ≤ _; omega) W, fun W => ?_, rfl, Nat.le_of_eq (line2_size a x)⟩
  have h2 : (a ++ ⟨#[32]⟩ : ByteArray).size = a.size + 1 := by rw [ByteArray.size_append]; rfl
  rw [← hl]
  exact add_s _ _ (by omega) W
set_option maxHeartbeats 4000000 in
set_option maxRecDepth 100000 in
theorem rfmt_at_0 (S : SetD) (e : Evt) (v1 v2 v3 v4 : Value) (w : World) (h : SetW w v1 v2 v3 v4 S) (hsh : Sh w) (ht : e.text.size ≤ 5000) (hdg : e.digest < 18446744073709551616) (hc : checkV e = 0) (hk : e.kind = 3 ∨ e.kind = 4 ∨ e.kind = 9) : Calls Tryz.prog 20 #[.agg #[v1, v2, v3, v4], e.val] w (StrPost (formatV S e) w) := by
  have CC := Lib.hid (fun W => rcheckE_any e W ht hdg)
  rw [hc] at CC
  have hhb : hasBb e.kind = false := by unfold hasBb; rcases hk with x | x | x <;> rw [x] <;> rfl
  have CK := Lib.hid (fun W => rhas_any e.kind W)
  rw [hhb] at CK
  clear hhb
  have CN := Lib.hid (fun W => rname_any e.kind W)
  have hns : (nameK e.kind).size ≤ 10 := (name_some (check_parts hc).1).2
  obtain ⟨A1, c1, A2, c2, A3, c3, A4, c4, rfl, rfl, rfl, rfl⟩ := h.forms
  have BR := Lib.hid (check_parts hc).2.2.1
  have RR := Lib.hid (check_parts hc).2.2.2.1
  have k1 : (e.kind == 1) = false := by simp; omega
  have k2 : (e.kind == 2) = false := by simp; omega
  have k5 : (e.kind == 5) = false := by simp; omega
  have k8 : (e.kind == 8) = false := by simp; omega
  have k10 : (e.kind == 10) = false := by simp; omega
  have HF := Lib.hid (fmt_plain hc hk (S := S))
  generalize formatV S e = V at *
  have htS : e.text.size ≤ 20000 := by omega
  generalize nameK e.kind = nk at *
  unfold outB at *
  obtain ⟨k, b, r, p, t, d⟩ := e
  unfold Evt.val at *
  dsimp only at *
  have M0 := Lib.hid (fm_new w #[.slice A1 S.ps.length c1, .slice A2 S.bs.length c2, .slice A3 S.cs.length c3, .slice A4 S.ad.length c4] (cells11 k b r p t d))
  have HLB := Lib.hid h.lb
  clear h hsh hc hk ht hdg 
  go_enter Tryz.func20, Tryz.ntmps20
  go_wp2_with fail
  generalize w.heap.size + 1 = ge at *
  refine (CC.out _).mono ?_
  rintro x w1 ⟨rfl, d1⟩
  have M1 := Lib.hid (M0.out.keep d1)
  clear d1 M0
  have s1 := M1.out.su.c4
  have e1 := Blk11 M1.out.ev
  have l1 := M1.out.su.lt
  have y1 := M1.out.ev.lt
  go_wp2_with fail
  refine (CN.out _).mono ?_
  rintro x w3 ⟨rfl, d3⟩
  have M3 := Lib.hid (M1.out.keep d3)
  clear d3 M1 s1 e1 l1 y1
  have s3 := M3.out.su.c4
  have e3 := Blk11 M3.out.ev
  have l3 := M3.out.su.lt
  have y3 := M3.out.ev.lt
  go_wp2_with fail
  refine (CK.out _).mono ?_
  rintro x w2 ⟨rfl, rfl⟩
  have HV := Lib.hid HF.out
  have h4 : ¬ 4000 < nk.size := by omega
  have HX := Lib.hid (HV.out.trans (cap_small h4))
  have d4 : decide ((4000 : Int) < (nk.size : Int)) = false := decide_eq_false (by omega)
  clear HV
  go_wp2_with fail
  go_ret
  exact ⟨by rw [HX.out]; rfl, M3.out.bl⟩
set_option maxHeartbeats 4000000 in
set_option maxRecDepth 100000 in
theorem rfmt_at_4 (S : SetD) (e : Evt) (v1 v2 v3 v4 : Value) (w : World) (h : SetW w v1 v2 v3 v4 S) (hsh : Sh w) (ht : e.text.size ≤ 5000) (hdg : e.digest < 18446744073709551616) (hc : checkV e = 0) (hk : e.kind = 1) : Calls Tryz.prog 20 #[.agg #[v1, v2, v3, v4], e.val] w (StrPost (formatV S e) w) := by
  have CC := Lib.hid (fun W => rcheckE_any e W ht hdg)
  rw [hc] at CC
  have hhb : hasBb e.kind = false := by rw [hk]; rfl
  have CK := Lib.hid (fun W => rhas_any e.kind W)
  rw [hhb] at CK
  clear hhb
  have CN := Lib.hid (fun W => rname_any e.kind W)
  have hns : (nameK e.kind).size ≤ 10 := (name_some (check_parts hc).1).2
  obtain ⟨A1, c1, A2, c2, A3, c3, A4, c4, rfl, rfl, rfl, rfl⟩ := h.forms
  have BR := Lib.hid (check_parts hc).2.2.1
  have RR := Lib.hid (check_parts hc).2.2.2.1
  have k1 : (e.kind == 1) = true := by simp; omega
  have k2 : (e.kind == 2) = false := by simp; omega
  have k5 : (e.kind == 5) = false := by simp; omega
  have k8 : (e.kind == 8) = false := by simp; omega
  have k10 : (e.kind == 10) = false := by simp; omega
  have HF := Lib.hid (fmt_sale hc hk (S := S))
  have hsl : e.text.data.toList.length = e.text.size := rfl
  have HXS : (ofL (replL 10 59 (Lib.trimSuffix e.text.data.toList [10]))).size ≤ 5000 := by
    rw [ofL_size, repl_len]
    have := trim_len e.text.data.toList
    omega
  have HC0 := Lib.hid (fun W => rcontains_59 e.text W ht)
  have HSS := Lib.hid (fun x => saleB_short (l := e.text.data.toList) x)
  have HSE := Lib.hid (fun x => saleB_ends (l := e.text.data.toList) x)
  have CR := Lib.hid (fun (hn : e.text.size - 1 < e.text.size) (h10 : e.text[e.text.size - 1]'hn = 10) W => rsale_text e.text ht hn h10 W)
  generalize ofL (replL 10 59 (Lib.trimSuffix e.text.data.toList [10])) = tv at *
  generalize saleB e.text.data.toList = tb at *
  generalize formatV S e = V at *
  have htS : e.text.size ≤ 20000 := by omega
  have hnk : nameK 1 = nameK e.kind := by rw [hk]
  rw [hnk] at HF
  clear hnk
  generalize nameK e.kind = nk at *
  unfold outB at *
  obtain ⟨k, b, r, p, t, d⟩ := e
  unfold Evt.val at *
  dsimp only at *
  have M0 := Lib.hid (fm_new w #[.slice A1 S.ps.length c1, .slice A2 S.bs.length c2, .slice A3 S.cs.length c3, .slice A4 S.ad.length c4] (cells11 k b r p t d))
  have HLB := Lib.hid h.lb
  have HT := Lib.hid ht
  clear h hsh hc hk ht hdg 
  go_enter Tryz.func20, Tryz.ntmps20
  go_wp2_with fail
  generalize w.heap.size + 1 = ge at *
  refine (CC.out _).mono ?_
  rintro x w1 ⟨rfl, d1⟩
  have M1 := Lib.hid (M0.out.keep d1)
  clear d1 M0
  have s1 := M1.out.su.c4
  have e1 := Blk11 M1.out.ev
  have l1 := M1.out.su.lt
  have y1 := M1.out.ev.lt
  go_wp2_with fail
  refine (CN.out _).mono ?_
  rintro x w3 ⟨rfl, d3⟩
  have M3 := Lib.hid (M1.out.keep d3)
  clear d3 M1 s1 e1 l1 y1
  have s3 := M3.out.su.c4
  have e3 := Blk11 M3.out.ev
  have l3 := M3.out.su.lt
  have y3 := M3.out.ev.lt
  go_wp2_with fail
  refine (CK.out _).mono ?_
  rintro x w2 ⟨rfl, rfl⟩
  by_cases h2 : t.size < 2
  · have d2 : decide ((t.size : Int) < 2) = true := decide_eq_true (by omega)
    have htb : tb = false := HSS.out (by omega)
    have HV := Lib.hid HF.out
    rw [htb, if_neg (by simp)] at HV
    clear htb h2
    go_wp2_with fail
    go_ret
    exact ⟨by rw [HV.out]; rfl, M3.out.bl⟩
  have d2 : decide ((t.size : Int) < 2) = false := decide_eq_false (by omega)
  have hb := HSE.out (by omega)
  have hj1 : ((t.size : Int) - 1).toNat = t.size - 1 := by omega
  have hj2 : ((t.size : Int) - 2).toNat = t.size - 2 := by omega
  have hn1 : t.size - 1 < t.size := by omega
  have HCR := Lib.hid (CR.out hn1)
  clear CR HSE HSS
  have hn2 : t.size - 2 < t.size := by omega
  have b1 : (0 : Int) ≤ (t.size : Int) - 1 := by omega
  have b2 : (t.size : Int) - 1 < (t.size : Int) := by omega
  have b3 : (0 : Int) ≤ (t.size : Int) - 2 := by omega
  have b4 : (t.size : Int) - 2 < (t.size : Int) := by omega
  have g2 : t.data.toList[t.data.toList.length - 1]'(by omega) = t[t.size - 1]'hn1 := rfl
  have g3 : t.data.toList[t.data.toList.length - 2]'(by omega) = t[t.size - 2]'hn2 := rfl
  rw [g2, g3] at hb
  clear g2 g3
  by_cases hx : t[t.size - 1] = 10
  case neg =>
    have hf : (t[t.size - 1] == 10) = false := by simpa using hx
    have htb : tb = false := by rw [hb, hf]; rfl
    have HV := Lib.hid HF.out
    rw [htb, if_neg (by simp)] at HV
    have dx : (((t[t.size - 1]).toNat : Int) != 10) = true := u8_bne (c := 10) rfl hx
    clear htb hb hf hx HCR
    go_wp2_with fail
    go_ret
    exact ⟨by rw [HV.out]; rfl, M3.out.bl⟩
  have HCR2 := Lib.hid (HCR.out hx)
  have dx : (((t[t.size - 1]).toNat : Int) != 10) = false := by rw [hx]; rfl
  by_cases hy : t[t.size - 2] = 10
  case pos =>
    have hf : (t[t.size - 2] == 10) = true := by simpa using hy
    have htb : tb = false := by rw [hb, hf]; simp
    have HV := Lib.hid HF.out
    rw [htb, if_neg (by simp)] at HV
    have dy : (((t[t.size - 2]).toNat : Int) == 10) = true := by rw [hy]; rfl
    clear htb hb hf hx hy HCR
    go_wp2_with fail
    go_ret
    exact ⟨by rw [HV.out]; rfl, M3.out.bl⟩
  have dy : (((t[t.size - 2]).toNat : Int) == 10) = false := u8_ne (c := 10) rfl hy
  have htb : tb = !t.data.toList.contains 59 := by
    have hf : (t[t.size - 1] == 10) = true := by simpa using hx
    have hf2 : (t[t.size - 2] == 10) = false := by simpa using hy
    rw [hb, hf, hf2]; rfl
  have HTB := Lib.hid htb
  clear htb hb hx hy HCR
  generalize t.data.toList.contains 59 = cb at *
  go_wp2_with fail
  refine (HC0.out _).mono ?_
  rintro x w5 ⟨rfl, d5⟩
  have M5 := Lib.hid (M3.out.keep d5)
  clear d5 M3 s3 e3 l3 y3
  have s5 := M5.out.su.c4
  have e5 := Blk11 M5.out.ev
  have l5 := M5.out.su.lt
  have y5 := M5.out.ev.lt
  cases hcb : cb with
  | true =>
    have HV := Lib.hid HF.out
    rw [HTB.out, hcb, if_neg (by simp)] at HV
    clear hcb
    go_wp2_with fail
    go_ret
    exact ⟨by rw [HV.out]; rfl, M5.out.bl⟩
  | false =>
    have HV := Lib.hid HF.out
    rw [HTB.out, hcb, if_pos (show (!false) = true from rfl)] at HV
    obtain ⟨u2, o2, a3, a4, q2, z2⟩ := add_word2 nk tv (by omega) (by omega)
    rw [← q2] at HV
    clear hcb q2
    go_wp2_with fail
    refine (HCR2.out _).mono ?_
    rintro x w6 ⟨rfl, d6⟩
    have M6 := Lib.hid (M5.out.keep d6)
    clear d6 M5 s5 e5 l5 y5
    by_cases h4 : 4000 < o2.size
    · have HX := Lib.hid (HV.out.trans (cap_big h4))
      have d4 : decide ((4000 : Int) < (o2.size : Int)) = true := decide_eq_true (by omega)
      clear HV
      go_wp2_with fail
      go_ret
      exact ⟨by rw [HX.out]; rfl, M6.out.bl⟩
    · have HX := Lib.hid (HV.out.trans (cap_small h4))
      have d4 : decide ((4000 : Int) < (o2.size : Int)) = false := decide_eq_false (by omega)
      clear HV
      go_wp2_with fail
      go_ret
      exact ⟨by rw [HX.out]; rfl, M6.out.bl⟩
set_option maxHeartbeats 4000000 in
set_option maxRecDepth 100000 in
theorem rfmt_at_3 (S : SetD) (e : Evt) (v1 v2 v3 v4 : Value) (w : World) (h : SetW w v1 v2 v3 v4 S) (hsh : Sh w) (ht : e.text.size ≤ 5000) (hdg : e.digest < 18446744073709551616) (hc : checkV e = 0) (hk : e.kind = 2) : Calls Tryz.prog 20 #[.agg #[v1, v2, v3, v4], e.val] w (StrPost (formatV S e) w) := by
  have CC := Lib.hid (fun W => rcheckE_any e W ht hdg)
  rw [hc] at CC
  have hhb : hasBb e.kind = true := by rw [hk]; rfl
  have CK := Lib.hid (fun W => rhas_any e.kind W)
  rw [hhb] at CK
  clear hhb
  have CN := Lib.hid (fun W => rname_any e.kind W)
  have hns : (nameK e.kind).size ≤ 10 := (name_some (check_parts hc).1).2
  obtain ⟨A1, c1, A2, c2, A3, c3, A4, c4, rfl, rfl, rfl, rfl⟩ := h.forms
  have BR := Lib.hid (check_parts hc).2.2.1
  have RR := Lib.hid (check_parts hc).2.2.2.1
  have k1 : (e.kind == 1) = false := by simp; omega
  have k2 : (e.kind == 2) = true := by simp; omega
  have k5 : (e.kind == 5) = false := by simp; omega
  have k8 : (e.kind == 8) = false := by simp; omega
  have k10 : (e.kind == 10) = false := by simp; omega
  have CS := Lib.hid (fun W (bw : Below w.heap.size w W) => Se.rcheck_any S _ _ _ _ W (h.keep bw))
  have HO := Lib.hid (fun x : outB S e => fmt_out (S := S) (e := e) (by exact .inl hk) x)
  have HBA := Lib.hid (fun (i : Nat) (hi : i < S.bs.length) => bid_at h.b hi)
  have HBN := Lib.hid (fun (i : Nat) (hi : i < S.bs.length) => bidN_at hi)
  have HBS := Lib.hid (fun (i : Nat) (hE : S.err = 0) (hi : i < S.bs.length) => bid_small hE hi)
  have CW := Lib.hid (fun W (bw : Below w.heap.size w W) => Cat.rformat_any S.ps _ e.want W (by have := h.lp; omega) (h.p.keep bw) h.np)
  unfold arr at CW
  have HF := Lib.hid (fun x => fmt_demand hc hk (S := S) x)
  have HWS := fmtS_size e.want S.ps
  have HW0 := Lib.hid (fun x => fmtS_none (b := e.want) (l := S.ps) x)
  have HW1 := Lib.hid (fun x => fmtS_some (b := e.want) (l := S.ps) x)
  generalize formatV S e = V at *
  generalize fmtS e.want S.ps = fw at *
  generalize rfitsB e.want S.ps = fb at *
  have htS : e.text.size ≤ 20000 := by omega
  have hnk : nameK 2 = nameK e.kind := by rw [hk]
  rw [hnk] at HF
  clear hnk
  generalize nameK e.kind = nk at *
  unfold outB at *
  obtain ⟨k, b, r, p, t, d⟩ := e
  unfold Evt.val at *
  dsimp only at *
  obtain ⟨i, hi⟩ : ∃ i : Nat, b = (i : Int) := ⟨b.toNat, by have := BR.out; omega⟩
  subst hi
  generalize hE : S.err = E at *
  have HEE := Lib.hid hE
  have M0 := Lib.hid (fm_new w #[.slice A1 S.ps.length c1, .slice A2 S.bs.length c2, .slice A3 S.cs.length c3, .slice A4 S.ad.length c4] (cells11 k (i : Int) r p t d))
  have HLB := Lib.hid h.lb
  clear h hsh hc hk ht hdg hE
  go_enter Tryz.func20, Tryz.ntmps20
  go_wp2_with fail
  generalize w.heap.size + 1 = ge at *
  refine (CC.out _).mono ?_
  rintro x w1 ⟨rfl, d1⟩
  have M1 := Lib.hid (M0.out.keep d1)
  clear d1 M0
  have s1 := M1.out.su.c4
  have e1 := Blk11 M1.out.ev
  have l1 := M1.out.su.lt
  have y1 := M1.out.ev.lt
  go_wp2_with fail
  refine (CN.out _).mono ?_
  rintro x w3 ⟨rfl, d3⟩
  have M3 := Lib.hid (M1.out.keep d3)
  clear d3 M1 s1 e1 l1 y1
  have s3 := M3.out.su.c4
  have e3 := Blk11 M3.out.ev
  have l3 := M3.out.su.lt
  have y3 := M3.out.ev.lt
  go_wp2_with fail
  refine (CK.out _).mono ?_
  rintro x w2 ⟨rfl, rfl⟩
  go_wp2_with fail
  refine (CS.out _ M3.out.bl).mono ?_
  rintro x w4 ⟨rfl, d4⟩
  have M4 := Lib.hid (M3.out.keep d4)
  clear d4 M3 s3 e3 l3 y3
  have s4 := M4.out.su.c4
  have e4 := Blk11 M4.out.ev
  have l4 := M4.out.su.lt
  have y4 := M4.out.ev.lt
  by_cases h0 : E ≠ 0
  · have HV := Lib.hid (HO.out (.inl h0))
    have dE : (E != 0) = true := by simpa using h0
    go_wp2_with fail
    go_ret
    exact ⟨by rw [HV.out]; rfl, M4.out.bl⟩
  have h00 : E = 0 := Classical.not_not.1 h0
  have dE : (E != 0) = false := by rw [h00]; rfl
  by_cases hB : (S.bs.length : Int) ≤ (i : Int)
  · have HV := Lib.hid (HO.out (.inr hB))
    have dB : decide ((S.bs.length : Int) ≤ (i : Int)) = true := decide_eq_true hB
    have hBn : S.bs.length ≤ i := by omega
    clear h0 h00
    go_wp2_with fail
    go_ret
    exact ⟨by rw [HV.out]; rfl, M4.out.bl⟩
  have hB2 : i < S.bs.length := by omega
  have hnb : ¬ (E ≠ 0 ∨ (S.bs.length : Int) ≤ (i : Int)) := by rintro (x | x); exact h0 x; exact hB x
  have dB : decide ((S.bs.length : Int) ≤ (i : Int)) = false := decide_eq_false hB
  obtain ⟨_, bb, bo, rfl, hbb, hcell⟩ := HBA.out i hB2
  have HVB := Lib.hid (HF.out hnb)
  have HNM := Lib.hid (HBN.out i hB2)
  rw [HNM.out] at HVB
  have hbs := HBS.out i h00 hB2
  have hcl := hcell _ M4.out.bl
  generalize S.bs[i].name = bn at *
  have hbw := Nat.lt_of_lt_of_le hbb M4.out.bl.size
  have hB2i : (i : Int) < (S.bs.length : Int) := by omega
  have hi0 : (0 : Int) ≤ (i : Int) := by omega
  have hBn : ¬ S.bs.length ≤ i := by omega
  obtain ⟨u1, o1, a1, a2, q1, z1⟩ := add_word2 nk bn (by omega) (by omega)
  rw [← q1] at HVB
  have Q1 := Lib.hid q1
  clear q1 h0 h00 hnb hB HF HO HBA HBN HBS hcell HNM HEE
  go_wp2_with fail
  refine (CW.out _ M4.out.bl).mono ?_
  rintro x w5 ⟨rfl, d5⟩
  have M5 := Lib.hid (M4.out.keep d5)
  clear d5 M4 s4 e4 l4 y4 hcl hbw
  have s5 := M5.out.su.c4
  have e5 := Blk11 M5.out.ev
  have l5 := M5.out.su.lt
  have y5 := M5.out.ev.lt
  cases hfb : fb with
  | false =>
    have HV := Lib.hid HVB.out
    rw [hfb, if_neg (by simp)] at HV
    have hfe := HW0.out hfb
    have hz : fw.toList.isEmpty = true := by rw [hfe]; decide +kernel
    clear hfb hfe
    go_wp2_with fail
    go_ret
    exact ⟨by rw [HV.out]; rfl, M5.out.bl⟩
  | true =>
    have HV := Lib.hid HVB.out
    rw [hfb, if_pos rfl] at HV
    have hz := tl_ne (HW1.out hfb)
    obtain ⟨u2, o2, a3, a4, q2, z2⟩ := add_word2 o1 fw (by omega) (by omega)
    rw [← q2] at HV
    clear hfb q2
    have h4 : ¬ 4000 < o2.size := by omega
    have HX := Lib.hid (HV.out.trans (cap_small h4))
    have d4 : decide ((4000 : Int) < (o2.size : Int)) = false := decide_eq_false (by omega)
    clear HV
    go_wp2_with fail
    go_ret
    exact ⟨by rw [HX.out]; rfl, M5.out.bl⟩
set_option maxHeartbeats 4000000 in
set_option maxRecDepth 100000 in
theorem rfmt_at_5 (S : SetD) (e : Evt) (v1 v2 v3 v4 : Value) (w : World) (h : SetW w v1 v2 v3 v4 S) (hsh : Sh w) (ht : e.text.size ≤ 5000) (hdg : e.digest < 18446744073709551616) (hc : checkV e = 0) (hk : e.kind = 5) : Calls Tryz.prog 20 #[.agg #[v1, v2, v3, v4], e.val] w (StrPost (formatV S e) w) := by
  have CC := Lib.hid (fun W => rcheckE_any e W ht hdg)
  rw [hc] at CC
  have hhb : hasBb e.kind = true := by rw [hk]; rfl
  have CK := Lib.hid (fun W => rhas_any e.kind W)
  rw [hhb] at CK
  clear hhb
  have CN := Lib.hid (fun W => rname_any e.kind W)
  have hns : (nameK e.kind).size ≤ 10 := (name_some (check_parts hc).1).2
  obtain ⟨A1, c1, A2, c2, A3, c3, A4, c4, rfl, rfl, rfl, rfl⟩ := h.forms
  have BR := Lib.hid (check_parts hc).2.2.1
  have RR := Lib.hid (check_parts hc).2.2.2.1
  have k1 : (e.kind == 1) = false := by simp; omega
  have k2 : (e.kind == 2) = false := by simp; omega
  have k5 : (e.kind == 5) = true := by simp; omega
  have k8 : (e.kind == 8) = false := by simp; omega
  have k10 : (e.kind == 10) = false := by simp; omega
  have CS := Lib.hid (fun W (bw : Below w.heap.size w W) => Se.rcheck_any S _ _ _ _ W (h.keep bw))
  have HO := Lib.hid (fun x : outB S e => fmt_out (S := S) (e := e) (by exact .inr (.inl hk)) x)
  have HBA := Lib.hid (fun (i : Nat) (hi : i < S.bs.length) => bid_at h.b hi)
  have HBN := Lib.hid (fun (i : Nat) (hi : i < S.bs.length) => bidN_at hi)
  have HBS := Lib.hid (fun (i : Nat) (hE : S.err = 0) (hi : i < S.bs.length) => bid_small hE hi)
  have HF := Lib.hid (fun x => fmt_bid hc hk (S := S) x)
  have HC0 := Lib.hid (fun W => rcontains_10 e.text W ht)
  have HBE : Hid (bidT e.text.data.toList = (!e.text.data.toList.isEmpty && (!e.text.data.toList.contains 10 && !(e.text.data.toList.head? == some 32)))) := rfl
  generalize bidT e.text.data.toList = tb at *
  generalize formatV S e = V at *
  have htS : e.text.size ≤ 20000 := by omega
  have hnk : nameK 5 = nameK e.kind := by rw [hk]
  rw [hnk] at HF
  clear hnk
  generalize nameK e.kind = nk at *
  unfold outB at *
  obtain ⟨k, b, r, p, t, d⟩ := e
  unfold Evt.val at *
  dsimp only at *
  obtain ⟨i, hi⟩ : ∃ i : Nat, b = (i : Int) := ⟨b.toNat, by have := BR.out; omega⟩
  subst hi
  generalize hE : S.err = E at *
  have HEE := Lib.hid hE
  have M0 := Lib.hid (fm_new w #[.slice A1 S.ps.length c1, .slice A2 S.bs.length c2, .slice A3 S.cs.length c3, .slice A4 S.ad.length c4] (cells11 k (i : Int) r p t d))
  have HLB := Lib.hid h.lb
  have HT := Lib.hid ht
  clear h hsh hc hk ht hdg hE
  go_enter Tryz.func20, Tryz.ntmps20
  go_wp2_with fail
  generalize w.heap.size + 1 = ge at *
  refine (CC.out _).mono ?_
  rintro x w1 ⟨rfl, d1⟩
  have M1 := Lib.hid (M0.out.keep d1)
  clear d1 M0
  have s1 := M1.out.su.c4
  have e1 := Blk11 M1.out.ev
  have l1 := M1.out.su.lt
  have y1 := M1.out.ev.lt
  go_wp2_with fail
  refine (CN.out _).mono ?_
  rintro x w3 ⟨rfl, d3⟩
  have M3 := Lib.hid (M1.out.keep d3)
  clear d3 M1 s1 e1 l1 y1
  have s3 := M3.out.su.c4
  have e3 := Blk11 M3.out.ev
  have l3 := M3.out.su.lt
  have y3 := M3.out.ev.lt
  go_wp2_with fail
  refine (CK.out _).mono ?_
  rintro x w2 ⟨rfl, rfl⟩
  go_wp2_with fail
  refine (CS.out _ M3.out.bl).mono ?_
  rintro x w4 ⟨rfl, d4⟩
  have M4 := Lib.hid (M3.out.keep d4)
  clear d4 M3 s3 e3 l3 y3
  have s4 := M4.out.su.c4
  have e4 := Blk11 M4.out.ev
  have l4 := M4.out.su.lt
  have y4 := M4.out.ev.lt
  by_cases h0 : E ≠ 0
  · have HV := Lib.hid (HO.out (.inl h0))
    have dE : (E != 0) = true := by simpa using h0
    go_wp2_with fail
    go_ret
    exact ⟨by rw [HV.out]; rfl, M4.out.bl⟩
  have h00 : E = 0 := Classical.not_not.1 h0
  have dE : (E != 0) = false := by rw [h00]; rfl
  by_cases hB : (S.bs.length : Int) ≤ (i : Int)
  · have HV := Lib.hid (HO.out (.inr hB))
    have dB : decide ((S.bs.length : Int) ≤ (i : Int)) = true := decide_eq_true hB
    have hBn : S.bs.length ≤ i := by omega
    clear h0 h00
    go_wp2_with fail
    go_ret
    exact ⟨by rw [HV.out]; rfl, M4.out.bl⟩
  have hB2 : i < S.bs.length := by omega
  have hnb : ¬ (E ≠ 0 ∨ (S.bs.length : Int) ≤ (i : Int)) := by rintro (x | x); exact h0 x; exact hB x
  have dB : decide ((S.bs.length : Int) ≤ (i : Int)) = false := decide_eq_false hB
  obtain ⟨_, bb, bo, rfl, hbb, hcell⟩ := HBA.out i hB2
  have HVB := Lib.hid (HF.out hnb)
  have HNM := Lib.hid (HBN.out i hB2)
  rw [HNM.out] at HVB
  have hbs := HBS.out i h00 hB2
  have hcl := hcell _ M4.out.bl
  generalize S.bs[i].name = bn at *
  have hbw := Nat.lt_of_lt_of_le hbb M4.out.bl.size
  have hB2i : (i : Int) < (S.bs.length : Int) := by omega
  have hi0 : (0 : Int) ≤ (i : Int) := by omega
  have hBn : ¬ S.bs.length ≤ i := by omega
  obtain ⟨u1, o1, a1, a2, q1, z1⟩ := add_word2 nk bn (by omega) (by omega)
  rw [← q1] at HVB
  have Q1 := Lib.hid q1
  clear q1 h0 h00 hnb hB HF HO HBA HBN HBS hcell HNM HEE
  by_cases h0 : t = ⟨#[]⟩
  · have hv : tb = false := by rw [HBE.out, h0]; rfl
    have HV := Lib.hid HVB.out
    rw [hv, if_neg (by simp)] at HV
    have hz : t.size = 0 := by rw [h0]; rfl
    have dz : ((t.size : Int) == 0) = true := by rw [hz]; rfl
    clear hv h0 hz
    go_wp2_with fail
    go_ret
    exact ⟨by rw [HV.out]; rfl, M4.out.bl⟩
  have hp := pos_of h0
  have hpi : (0 : Int) < (t.size : Int) := by omega
  have dz : ((t.size : Int) == 0) = false := beq_eq_false_iff_ne.2 (by omega)
  have hi : t.data.toList.isEmpty = false := isE_of h0
  have hh := head_of hp
  have hb : tb = (!t.data.toList.contains 10 && !(t[0] == 32)) := by rw [HBE.out, hi, hh]; rfl
  have HB2 := Lib.hid hb
  clear h0 hi hh hb HBE
  by_cases hx : t[0] = 32
  · have hv : tb = false := by rw [HB2.out, hx]; simp
    have HV := Lib.hid HVB.out
    rw [hv, if_neg (by simp)] at HV
    have dx : ((t[0].toNat : Int) == 32) = true := by rw [hx]; rfl
    clear hv hx HB2
    go_wp2_with fail
    go_ret
    exact ⟨by rw [HV.out]; rfl, M4.out.bl⟩
  have dx : ((t[0].toNat : Int) == 32) = false := u8_ne (c := 32) rfl hx
  have hb3 : tb = !t.data.toList.contains 10 := by
    have hf : (t[0] == 32) = false := by simpa using hx
    rw [HB2.out, hf]
    simp
  have HTB := Lib.hid hb3
  clear hb3 HB2 hx
  generalize t.data.toList.contains 10 = cb at *
  go_wp2_with fail
  refine (HC0.out _).mono ?_
  rintro x w5 ⟨rfl, d5⟩
  have M5 := Lib.hid (M4.out.keep d5)
  clear d5 M4 s4 e4 l4 y4 hcl hbw
  have s5 := M5.out.su.c4
  have e5 := Blk11 M5.out.ev
  have l5 := M5.out.su.lt
  have y5 := M5.out.ev.lt
  cases hcb : cb with
  | true =>
    have HV := Lib.hid HVB.out
    rw [HTB.out, hcb, if_neg (by simp)] at HV
    clear hcb
    go_wp2_with fail
    go_ret
    exact ⟨by rw [HV.out]; rfl, M5.out.bl⟩
  | false =>
    have HV := Lib.hid HVB.out
    rw [HTB.out, hcb, if_pos (show (!false) = true from rfl)] at HV
    have ht2 := HT.out
    obtain ⟨u2, o2, a3, a4, q2, z2⟩ := add_word2 o1 t (by omega) (by omega)
    rw [← q2] at HV
    clear hcb q2
    by_cases h4 : 4000 < o2.size
    · have HX := Lib.hid (HV.out.trans (cap_big h4))
      have d4 : decide ((4000 : Int) < (o2.size : Int)) = true := decide_eq_true (by omega)
      clear HV
      go_wp2_with fail
      go_ret
      exact ⟨by rw [HX.out]; rfl, M5.out.bl⟩
    · have HX := Lib.hid (HV.out.trans (cap_small h4))
      have d4 : decide ((4000 : Int) < (o2.size : Int)) = false := decide_eq_false (by omega)
      clear HV
      go_wp2_with fail
      go_ret
      exact ⟨by rw [HX.out]; rfl, M5.out.bl⟩
set_option maxHeartbeats 4000000 in
set_option maxRecDepth 100000 in
theorem rfmt_at_1 (S : SetD) (e : Evt) (v1 v2 v3 v4 : Value) (w : World) (h : SetW w v1 v2 v3 v4 S) (hsh : Sh w) (ht : e.text.size ≤ 5000) (hdg : e.digest < 18446744073709551616) (hc : checkV e = 0) (hk : e.kind = 6 ∨ e.kind = 7) : Calls Tryz.prog 20 #[.agg #[v1, v2, v3, v4], e.val] w (StrPost (formatV S e) w) := by
  have CC := Lib.hid (fun W => rcheckE_any e W ht hdg)
  rw [hc] at CC
  have hhb : hasBb e.kind = true := by unfold hasBb; rcases hk with x | x <;> rw [x] <;> rfl
  have CK := Lib.hid (fun W => rhas_any e.kind W)
  rw [hhb] at CK
  clear hhb
  have CN := Lib.hid (fun W => rname_any e.kind W)
  have hns : (nameK e.kind).size ≤ 10 := (name_some (check_parts hc).1).2
  obtain ⟨A1, c1, A2, c2, A3, c3, A4, c4, rfl, rfl, rfl, rfl⟩ := h.forms
  have BR := Lib.hid (check_parts hc).2.2.1
  have RR := Lib.hid (check_parts hc).2.2.2.1
  have k1 : (e.kind == 1) = false := by simp; omega
  have k2 : (e.kind == 2) = false := by simp; omega
  have k5 : (e.kind == 5) = false := by simp; omega
  have k8 : (e.kind == 8) = false := by simp; omega
  have k10 : (e.kind == 10) = false := by simp; omega
  have CS := Lib.hid (fun W (bw : Below w.heap.size w W) => Se.rcheck_any S _ _ _ _ W (h.keep bw))
  have HO := Lib.hid (fun x : outB S e => fmt_out (S := S) (e := e) (by rcases hk with x | x; exact .inr (.inr (.inl x)); exact .inr (.inr (.inr x))) x)
  have HBA := Lib.hid (fun (i : Nat) (hi : i < S.bs.length) => bid_at h.b hi)
  have HBN := Lib.hid (fun (i : Nat) (hi : i < S.bs.length) => bidN_at hi)
  have HBS := Lib.hid (fun (i : Nat) (hE : S.err = 0) (hi : i < S.bs.length) => bid_small hE hi)
  have HF := Lib.hid (fun x => fmt_out1 hc hk (S := S) x)
  generalize formatV S e = V at *
  have htS : e.text.size ≤ 20000 := by omega
  generalize nameK e.kind = nk at *
  unfold outB at *
  obtain ⟨k, b, r, p, t, d⟩ := e
  unfold Evt.val at *
  dsimp only at *
  obtain ⟨i, hi⟩ : ∃ i : Nat, b = (i : Int) := ⟨b.toNat, by have := BR.out; omega⟩
  subst hi
  generalize hE : S.err = E at *
  have HEE := Lib.hid hE
  have M0 := Lib.hid (fm_new w #[.slice A1 S.ps.length c1, .slice A2 S.bs.length c2, .slice A3 S.cs.length c3, .slice A4 S.ad.length c4] (cells11 k (i : Int) r p t d))
  have HLB := Lib.hid h.lb
  clear h hsh hc hk ht hdg hE
  go_enter Tryz.func20, Tryz.ntmps20
  go_wp2_with fail
  generalize w.heap.size + 1 = ge at *
  refine (CC.out _).mono ?_
  rintro x w1 ⟨rfl, d1⟩
  have M1 := Lib.hid (M0.out.keep d1)
  clear d1 M0
  have s1 := M1.out.su.c4
  have e1 := Blk11 M1.out.ev
  have l1 := M1.out.su.lt
  have y1 := M1.out.ev.lt
  go_wp2_with fail
  refine (CN.out _).mono ?_
  rintro x w3 ⟨rfl, d3⟩
  have M3 := Lib.hid (M1.out.keep d3)
  clear d3 M1 s1 e1 l1 y1
  have s3 := M3.out.su.c4
  have e3 := Blk11 M3.out.ev
  have l3 := M3.out.su.lt
  have y3 := M3.out.ev.lt
  go_wp2_with fail
  refine (CK.out _).mono ?_
  rintro x w2 ⟨rfl, rfl⟩
  go_wp2_with fail
  refine (CS.out _ M3.out.bl).mono ?_
  rintro x w4 ⟨rfl, d4⟩
  have M4 := Lib.hid (M3.out.keep d4)
  clear d4 M3 s3 e3 l3 y3
  have s4 := M4.out.su.c4
  have e4 := Blk11 M4.out.ev
  have l4 := M4.out.su.lt
  have y4 := M4.out.ev.lt
  by_cases h0 : E ≠ 0
  · have HV := Lib.hid (HO.out (.inl h0))
    have dE : (E != 0) = true := by simpa using h0
    go_wp2_with fail
    go_ret
    exact ⟨by rw [HV.out]; rfl, M4.out.bl⟩
  have h00 : E = 0 := Classical.not_not.1 h0
  have dE : (E != 0) = false := by rw [h00]; rfl
  by_cases hB : (S.bs.length : Int) ≤ (i : Int)
  · have HV := Lib.hid (HO.out (.inr hB))
    have dB : decide ((S.bs.length : Int) ≤ (i : Int)) = true := decide_eq_true hB
    have hBn : S.bs.length ≤ i := by omega
    clear h0 h00
    go_wp2_with fail
    go_ret
    exact ⟨by rw [HV.out]; rfl, M4.out.bl⟩
  have hB2 : i < S.bs.length := by omega
  have hnb : ¬ (E ≠ 0 ∨ (S.bs.length : Int) ≤ (i : Int)) := by rintro (x | x); exact h0 x; exact hB x
  have dB : decide ((S.bs.length : Int) ≤ (i : Int)) = false := decide_eq_false hB
  obtain ⟨_, bb, bo, rfl, hbb, hcell⟩ := HBA.out i hB2
  have HVB := Lib.hid (HF.out hnb)
  have HNM := Lib.hid (HBN.out i hB2)
  rw [HNM.out] at HVB
  have hbs := HBS.out i h00 hB2
  have hcl := hcell _ M4.out.bl
  generalize S.bs[i].name = bn at *
  have hbw := Nat.lt_of_lt_of_le hbb M4.out.bl.size
  have hB2i : (i : Int) < (S.bs.length : Int) := by omega
  have hi0 : (0 : Int) ≤ (i : Int) := by omega
  have hBn : ¬ S.bs.length ≤ i := by omega
  obtain ⟨u1, o1, a1, a2, q1, z1⟩ := add_word2 nk bn (by omega) (by omega)
  rw [← q1] at HVB
  have Q1 := Lib.hid q1
  clear q1 h0 h00 hnb hB HF HO HBA HBN HBS hcell HNM HEE
  have HV := Lib.hid HVB.out
  have h4 : ¬ 4000 < o1.size := by omega
  have HX := Lib.hid (HV.out.trans (cap_small h4))
  have d4 : decide ((4000 : Int) < (o1.size : Int)) = false := decide_eq_false (by omega)
  clear HV
  go_wp2_with fail
  go_ret
  exact ⟨by rw [HX.out]; rfl, M4.out.bl⟩
set_option maxHeartbeats 4000000 in
set_option maxRecDepth 100000 in
theorem rfmt_at_8 (S : SetD) (e : Evt) (v1 v2 v3 v4 : Value) (w : World) (h : SetW w v1 v2 v3 v4 S) (hsh : Sh w) (ht : e.text.size ≤ 5000) (hdg : e.digest < 18446744073709551616) (hc : checkV e = 0) (hk : e.kind = 8) : Calls Tryz.prog 20 #[.agg #[v1, v2, v3, v4], e.val] w (StrPost (formatV S e) w) := by
  have CC := Lib.hid (fun W => rcheckE_any e W ht hdg)
  rw [hc] at CC
  have hhb : hasBb e.kind = false := by rw [hk]; rfl
  have CK := Lib.hid (fun W => rhas_any e.kind W)
  rw [hhb] at CK
  clear hhb
  have CN := Lib.hid (fun W => rname_any e.kind W)
  have hns : (nameK e.kind).size ≤ 10 := (name_some (check_parts hc).1).2
  obtain ⟨A1, c1, A2, c2, A3, c3, A4, c4, rfl, rfl, rfl, rfl⟩ := h.forms
  have BR := Lib.hid (check_parts hc).2.2.1
  have RR := Lib.hid (check_parts hc).2.2.2.1
  have k1 : (e.kind == 1) = false := by simp; omega
  have k2 : (e.kind == 2) = false := by simp; omega
  have k5 : (e.kind == 5) = false := by simp; omega
  have k8 : (e.kind == 8) = true := by simp; omega
  have k10 : (e.kind == 10) = false := by simp; omega
  have HF := Lib.hid (fmt_rerun hc hk (S := S))
  generalize formatV S e = V at *
  have htS : e.text.size ≤ 20000 := by omega
  have hnk : nameK 8 = nameK e.kind := by rw [hk]
  rw [hnk] at HF
  clear hnk
  generalize nameK e.kind = nk at *
  have CD := Lib.hid (fun W => rdec_any e.round.toNat (by have := RR.out; omega) W)
  have HDS : (ofL (Lib.decDigits e.round.toNat)).size ≤ 2 := by rw [ofL_size]; exact dec2 (by have := RR.out; omega)
  rw [Int.toNat_of_nonneg RR.out.1] at CD
  generalize ofL (Lib.decDigits e.round.toNat) = dv at *
  unfold outB at *
  obtain ⟨k, b, r, p, t, d⟩ := e
  unfold Evt.val at *
  dsimp only at *
  have M0 := Lib.hid (fm_new w #[.slice A1 S.ps.length c1, .slice A2 S.bs.length c2, .slice A3 S.cs.length c3, .slice A4 S.ad.length c4] (cells11 k b r p t d))
  have HLB := Lib.hid h.lb
  clear h hsh hc hk ht hdg 
  go_enter Tryz.func20, Tryz.ntmps20
  go_wp2_with fail
  generalize w.heap.size + 1 = ge at *
  refine (CC.out _).mono ?_
  rintro x w1 ⟨rfl, d1⟩
  have M1 := Lib.hid (M0.out.keep d1)
  clear d1 M0
  have s1 := M1.out.su.c4
  have e1 := Blk11 M1.out.ev
  have l1 := M1.out.su.lt
  have y1 := M1.out.ev.lt
  go_wp2_with fail
  refine (CN.out _).mono ?_
  rintro x w3 ⟨rfl, d3⟩
  have M3 := Lib.hid (M1.out.keep d3)
  clear d3 M1 s1 e1 l1 y1
  have s3 := M3.out.su.c4
  have e3 := Blk11 M3.out.ev
  have l3 := M3.out.su.lt
  have y3 := M3.out.ev.lt
  go_wp2_with fail
  refine (CK.out _).mono ?_
  rintro x w2 ⟨rfl, rfl⟩
  obtain ⟨u2, o2, a3, a4, q2, z2⟩ := add_word2 nk dv (by omega) (by omega)
  go_wp2_with fail
  refine (CD.out _).mono ?_
  rintro x w5 ⟨rfl, d5⟩
  have M5 := Lib.hid (M3.out.keep d5)
  clear d5 M3 s3 e3 l3 y3
  have HV := Lib.hid HF.out
  rw [← q2] at HV
  clear q2
  have h4 : ¬ 4000 < o2.size := by omega
  have HX := Lib.hid (HV.out.trans (cap_small h4))
  have d4 : decide ((4000 : Int) < (o2.size : Int)) = false := decide_eq_false (by omega)
  clear HV
  go_wp2_with fail
  go_ret
  exact ⟨by rw [HX.out]; rfl, M5.out.bl⟩
set_option maxHeartbeats 4000000 in
set_option maxRecDepth 100000 in
theorem rfmt_at_16 (S : SetD) (e : Evt) (v1 v2 v3 v4 : Value) (w : World) (h : SetW w v1 v2 v3 v4 S) (hsh : Sh w) (ht : e.text.size ≤ 5000) (hdg : e.digest < 18446744073709551616) (hc : checkV e = 0) (hk : e.kind = 10) : Calls Tryz.prog 20 #[.agg #[v1, v2, v3, v4], e.val] w (StrPost (formatV S e) w) := by
  have CC := Lib.hid (fun W => rcheckE_any e W ht hdg)
  rw [hc] at CC
  have hhb : hasBb e.kind = false := by rw [hk]; rfl
  have CK := Lib.hid (fun W => rhas_any e.kind W)
  rw [hhb] at CK
  clear hhb
  have CN := Lib.hid (fun W => rname_any e.kind W)
  have hns : (nameK e.kind).size ≤ 10 := (name_some (check_parts hc).1).2
  obtain ⟨A1, c1, A2, c2, A3, c3, A4, c4, rfl, rfl, rfl, rfl⟩ := h.forms
  have BR := Lib.hid (check_parts hc).2.2.1
  have RR := Lib.hid (check_parts hc).2.2.2.1
  have k1 : (e.kind == 1) = false := by simp; omega
  have k2 : (e.kind == 2) = false := by simp; omega
  have k5 : (e.kind == 5) = false := by simp; omega
  have k8 : (e.kind == 8) = false := by simp; omega
  have k10 : (e.kind == 10) = true := by simp; omega
  have HF := Lib.hid (fmt_decide hc hk (S := S))
  have CH := Lib.hid (fun W => Sum.refHex_any e.digest W hdg)
  have HHS : (Sum.hexS e.digest).size ≤ 16 := by
    show (Sum.hexL e.digest 16).toArray.size ≤ 16
    rw [List.size_toArray, Sum.hexL_length]
    exact Nat.le_refl _
  generalize formatV S e = V at *
  have htS : e.text.size ≤ 20000 := by omega
  have hnk : nameK 10 = nameK e.kind := by rw [hk]
  rw [hnk] at HF
  clear hnk
  generalize nameK e.kind = nk at *
  have HFD : Hid (V = capV (line2 nk (Sum.hexS e.digest))) := HF.out
  generalize Sum.hexS e.digest = hx at *
  unfold outB at *
  obtain ⟨k, b, r, p, t, d⟩ := e
  unfold Evt.val at *
  dsimp only at *
  have M0 := Lib.hid (fm_new w #[.slice A1 S.ps.length c1, .slice A2 S.bs.length c2, .slice A3 S.cs.length c3, .slice A4 S.ad.length c4] (cells11 k b r p t d))
  have HLB := Lib.hid h.lb
  clear h hsh hc hk ht hdg 
  go_enter Tryz.func20, Tryz.ntmps20
  go_wp2_with fail
  generalize w.heap.size + 1 = ge at *
  refine (CC.out _).mono ?_
  rintro x w1 ⟨rfl, d1⟩
  have M1 := Lib.hid (M0.out.keep d1)
  clear d1 M0
  have s1 := M1.out.su.c4
  have e1 := Blk11 M1.out.ev
  have l1 := M1.out.su.lt
  have y1 := M1.out.ev.lt
  go_wp2_with fail
  refine (CN.out _).mono ?_
  rintro x w3 ⟨rfl, d3⟩
  have M3 := Lib.hid (M1.out.keep d3)
  clear d3 M1 s1 e1 l1 y1
  have s3 := M3.out.su.c4
  have e3 := Blk11 M3.out.ev
  have l3 := M3.out.su.lt
  have y3 := M3.out.ev.lt
  go_wp2_with fail
  refine (CK.out _).mono ?_
  rintro x w2 ⟨rfl, rfl⟩
  obtain ⟨u2, o2, a3, a4, q2, z2⟩ := add_word2 nk hx (by omega) (by omega)
  go_wp2_with fail
  refine (CH.out _).mono ?_
  rintro x w5 ⟨rfl, d5⟩
  have M5 := Lib.hid (M3.out.keep d5)
  clear d5 M3 s3 e3 l3 y3
  have HV := Lib.hid HFD.out
  rw [← q2] at HV
  clear q2
  have h4 : ¬ 4000 < o2.size := by omega
  have HX := Lib.hid (HV.out.trans (cap_small h4))
  have d4 : decide ((4000 : Int) < (o2.size : Int)) = false := decide_eq_false (by omega)
  clear HV
  go_wp2_with fail
  go_ret
  exact ⟨by rw [HX.out]; rfl, M5.out.bl⟩
set_option maxRecDepth 100000 in
theorem rfmt_bad (S : SetD) (e : Evt) (v1 v2 v3 v4 : Value) (w : World) (ht : e.text.size ≤ 5000) (hdg : e.digest < 18446744073709551616) (hc : checkV e ≠ 0) : Calls Tryz.prog 20 #[.agg #[v1, v2, v3, v4], e.val] w (StrPost (formatV S e) w) := by
  have HV := Lib.hid (fmt_check (S := S) hc)
  have CC := Lib.hid (fun W => rcheckE_any e W ht hdg)
  have dc : (checkV e != 0) = true := by simpa using hc
  generalize formatV S e = V at *
  generalize checkV e = E at *
  obtain ⟨k, b, r, p, t, d⟩ := e
  unfold Evt.val at *
  dsimp only at *
  clear hc ht hdg
  go_enter Tryz.func20, Tryz.ntmps20
  go_wp2_with fail
  refine (CC.out _).mono ?_
  rintro x w1 ⟨rfl, d1⟩
  have B1 := Lib.hid (chain2 (Below.refl _ _) d1)
  clear d1
  go_wp2_with fail
  go_ret
  exact ⟨by rw [HV.out]; rfl, B1.out⟩
theorem rformatE_any (S : SetD) (e : Evt) (v1 v2 v3 v4 : Value) (w : World) (h : SetW w v1 v2 v3 v4 S) (hsh : Sh w) (ht : e.text.size ≤ 5000) (hdg : e.digest < 18446744073709551616) : Calls Tryz.prog 20 #[.agg #[v1, v2, v3, v4], e.val] w (StrPost (formatV S e) w) := by
  by_cases hc : checkV e = 0
  · have hk := (check_parts hc).1
    have hq : (e.kind = 3 ∨ e.kind = 4 ∨ e.kind = 9) ∨ e.kind = 1 ∨ e.kind = 2 ∨ e.kind = 5 ∨ (e.kind = 6 ∨ e.kind = 7) ∨ e.kind = 8 ∨ e.kind = 10 := by omega
    rcases hq with x | x | x | x | x | x | x
    · exact rfmt_at_0 S e v1 v2 v3 v4 w h hsh ht hdg hc x
    · exact rfmt_at_4 S e v1 v2 v3 v4 w h hsh ht hdg hc x
    · exact rfmt_at_3 S e v1 v2 v3 v4 w h hsh ht hdg hc x
    · exact rfmt_at_5 S e v1 v2 v3 v4 w h hsh ht hdg hc x
    · exact rfmt_at_1 S e v1 v2 v3 v4 w h hsh ht hdg hc x
    · exact rfmt_at_8 S e v1 v2 v3 v4 w h hsh ht hdg hc x
    · exact rfmt_at_16 S e v1 v2 v3 v4 w h hsh ht hdg hc x
  · exact rfmt_bad S e v1 v2 v3 v4 w ht hdg hc
end Go.Proofs.YtaikmgnpfbnjjaaGreatDoor.Ev
