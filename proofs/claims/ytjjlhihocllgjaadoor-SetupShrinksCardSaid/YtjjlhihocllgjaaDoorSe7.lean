/- Contracts of setup.width, number, numbers, named. Printed by gen_se7.py. -/
import Derived.Test.YtjjlhihocllgjaaDoorSe6
namespace Go.Proofs.YtjjlhihocllgjaaDoor.Se
open Go.ChangeShapes Go.WideShapes Go.ChangeAt Go.RowKit Gn Cat Lex Ros
set_option linter.unusedVariables false
set_option linter.unusedSimpArgs false
theorem lit_p (s : ByteArray) : eqB s wProd = (s.toList == [112, 114, 111, 100, 117, 99, 116]) := by
  unfold eqB
  rw [show wProd.toList = [112, 114, 111, 100, 117, 99, 116] by decide +kernel]
theorem lit_b (s : ByteArray) : eqB s wBid = (s.toList == [98, 105, 100, 100, 101, 114]) := by
  unfold eqB
  rw [show wBid.toList = [98, 105, 100, 100, 101, 114] by decide +kernel]
theorem lit_c (s : ByteArray) : eqB s wCap = (s.toList == [99, 97, 112]) := by
  unfold eqB
  rw [show wCap.toList = [99, 97, 112] by decide +kernel]
theorem lit_a (s : ByteArray) : eqB s wAsd = (s.toList == [97, 115, 105, 100, 101]) := by
  unfold eqB
  rw [show wAsd.toList = [97, 115, 105, 100, 101] by decide +kernel]
theorem lit_s (s : ByteArray) : eqB s wAny = (s.toList == [42]) := by
  unfold eqB
  rw [show wAny.toList = [42] by decide +kernel]
theorem eq_other {s a b : ByteArray} (h : eqB s a = true) (hn : eqB a b = false) : eqB s b = false := by
  rw [eqB_iff.1 h]
  exact hn
theorem eq_pb : eqB wProd wBid = false := by decide +kernel
theorem eq_pc : eqB wProd wCap = false := by decide +kernel
theorem eq_pa : eqB wProd wAsd = false := by decide +kernel
theorem eq_bc : eqB wBid wCap = false := by decide +kernel
theorem eq_ba : eqB wBid wAsd = false := by decide +kernel
theorem eq_ca : eqB wCap wAsd = false := by decide +kernel
set_option maxRecDepth 100000 in
theorem width_any (s : ByteArray) (w : World) : Calls Tryd.prog 111 #[.string s] w fun e w' => e = .returned (.int .i64 (widthW s : Nat)) ∧ w = w' := by
  have HW : Hid (widthW s = if eqB s wProd then 6 else if eqB s wBid then 5 else if eqB s wCap then 4 else if eqB s wAsd then 4 else 0) := rfl
  generalize widthW s = R at *
  cases h1 : eqB s wProd with
  | true =>
    have HV : Hid (R = 6) := by show R = 6; rw [HW.out, h1]; rfl
    rw [lit_p] at h1
    go_enter Tryd.func111, Tryd.ntmps111
    go_wp2_with fail
    go_ret
    exact ⟨by rw [HV.out]; rfl, rfl⟩
  | false =>
  cases h2 : eqB s wBid with
  | true =>
    have HV : Hid (R = 5) := by show R = 5; rw [HW.out, h1, h2]; rfl
    rw [lit_p] at h1
    rw [lit_b] at h2
    go_enter Tryd.func111, Tryd.ntmps111
    go_wp2_with fail
    go_ret
    exact ⟨by rw [HV.out]; rfl, rfl⟩
  | false =>
  cases h3 : eqB s wCap with
  | true =>
    have HV : Hid (R = 4) := by show R = 4; rw [HW.out, h1, h2, h3]; rfl
    rw [lit_p] at h1
    rw [lit_b] at h2
    rw [lit_c] at h3
    go_enter Tryd.func111, Tryd.ntmps111
    go_wp2_with fail
    go_ret
    exact ⟨by rw [HV.out]; rfl, rfl⟩
  | false =>
  cases h4 : eqB s wAsd with
  | true =>
    have HV : Hid (R = 4) := by show R = 4; rw [HW.out, h1, h2, h3, h4]; rfl
    rw [lit_p] at h1
    rw [lit_b] at h2
    rw [lit_c] at h3
    rw [lit_a] at h4
    go_enter Tryd.func111, Tryd.ntmps111
    go_wp2_with fail
    go_ret
    exact ⟨by rw [HV.out]; rfl, rfl⟩
  | false =>
    have HV : Hid (R = 0) := by show R = 0; rw [HW.out, h1, h2, h3, h4]; rfl
    rw [lit_p] at h1
    rw [lit_b] at h2
    rw [lit_c] at h3
    rw [lit_a] at h4
    go_enter Tryd.func111, Tryd.ntmps111
    go_wp2_with fail
    go_ret
    exact ⟨by rw [HV.out]; rfl, rfl⟩
abbrev numR (s : ByteArray) : Int := if numE s = 0 then numV s else 0
abbrev NumPost (s : ByteArray) (w : World) : Ending → World → Prop := fun e w' => e = .returned (.tuple #[.int .i64 (numR s), .int .i64 (numE s)]) ∧ Below w.heap.size w w'
theorem numE_bad {s : ByteArray} {k : Nat} (h : k < s.size) (hd : dig s[k] = false) : numE s = 2 := by
  unfold numE
  rw [if_pos]
  rw [List.all_eq_false]
  exact ⟨s[k], List.getElem_mem (by exact h), by rw [hd]; simp⟩
theorem numE_all {s : ByteArray} (h : ∀ j (hj : j < s.size), dig s[j] = true) : numE s = if s.size = 0 ∨ (1 < s.size ∧ s.data.toList.head? = some 48) then 2 else if 9 < s.size then 4 else 0 := by
  unfold numE
  rw [if_neg]
  rw [Bool.not_eq_false, List.all_eq_true]
  intro b hb
  obtain ⟨j, hj, rfl⟩ := List.getElem_of_mem hb
  exact h j hj
theorem head_at {s : ByteArray} (h : 0 < s.size) : s.data.toList.head? = some s[0] := by
  have h2 : 0 < s.data.toList.length := h
  rw [List.head?_eq_getElem?, List.getElem?_eq_getElem h2]
  rfl
theorem size_nil {s : ByteArray} (h : s.size = 0) : s = ⟨#[]⟩ := by
  apply ByteArray.ext
  apply Array.ext'
  exact List.eq_nil_of_length_eq_zero h
set_option maxHeartbeats 1000000 in
set_option maxRecDepth 100000 in
theorem number_any (s : ByteArray) (w : World) (hs : s.size ≤ 5000) : Calls Tryd.prog 125 #[.string s] w (NumPost s w) := by
  have HB := Lib.hid (fun k h hd => numE_bad (s := s) (k := k) h hd)
  have HA := Lib.hid (numE_all (s := s))
  have HH := Lib.hid (head_at (s := s))
  have HN := Lib.hid (size_nil (s := s))
  have CA := Lib.hid (fun h => atoi_any s w h)
  obtain ⟨R, hR⟩ : ∃ R, R = numE s := ⟨_, rfl⟩
  obtain ⟨V, hV⟩ : ∃ V, V = numR s := ⟨_, rfl⟩
  have HR := Lib.hid hR
  have HVV := Lib.hid hV
  unfold NumPost
  rw [← hR, ← hV]
  clear hR hV
  have hs5 : (s.size : Int) ≤ 5000 := by omega
  go_enter Tryd.func125, Tryd.ntmps125
  go_wp2_with fail
  go_loop [9] (fun iv => ∃ k : Nat, k ≤ s.size ∧ iv = .int .i64 (k : Int) ∧ Hid (∀ j (hj : j < s.size), j < k → dig s[j] = true)) (fun iv => s.size - (intOf iv).toNat)
  case atStart => exact ⟨0, Nat.zero_le _, rfl, fun j _ h => absurd h (Nat.not_lt_zero _)⟩
  case round =>
    obtain ⟨k, hk, rfl, HI⟩ := hrel
    have hk0 : (0 : Int) ≤ (k : Int) := by omega
    by_cases hlt : k < s.size
    · have hd2 : decide ((k : Int) < (s.size : Int)) = true := by simp; omega
      have hkl : (k : Int) < (s.size : Int) := by omega
      by_cases q0 : ((s[k].toNat : Nat) : Int) < 48
      · have t0 : decide (((s[k].toNat : Nat) : Int) < 48) = true := decide_eq_true q0
        have t0n : decide (s[k].toNat < 48) = true := decide_eq_true (by omega)
        have HV2 : Hid (R = 2) := HR.out.trans (HB.out k hlt (by unfold dig; rw [decide_eq_false (by omega)]; rfl))
        have HV3 : Hid (V = 0) := HVV.out.trans (if_neg (by rw [← HR.out, HV2.out]; decide))
        go_wp2_with fail
        go_ret2
        exact ⟨by rw [HV2.out, HV3.out]; rfl, Below.refl _ _⟩
      · have t0 : decide (((s[k].toNat : Nat) : Int) < 48) = false := decide_eq_false q0
        have t0n : decide (s[k].toNat < 48) = false := decide_eq_false (by omega)
        by_cases q1 : 57 < ((s[k].toNat : Nat) : Int)
        · have t1 : decide ((57 : Int) < ((s[k].toNat : Nat) : Int)) = true := decide_eq_true q1
          have t1n : decide (57 < s[k].toNat) = true := decide_eq_true (by omega)
          have HV2 : Hid (R = 2) := HR.out.trans (HB.out k hlt (by unfold dig; rw [decide_eq_false (show ¬ s[k].toNat ≤ 57 by omega), Bool.and_false]))
          have HV3 : Hid (V = 0) := HVV.out.trans (if_neg (by rw [← HR.out, HV2.out]; decide))
          go_wp2_with fail
          go_ret2
          exact ⟨by rw [HV2.out, HV3.out]; rfl, Below.refl _ _⟩
        · have t1 : decide ((57 : Int) < ((s[k].toNat : Nat) : Int)) = false := decide_eq_false q1
          have t1n : decide (57 < s[k].toNat) = false := decide_eq_false (by omega)
          have HI2 : Hid (∀ j (hj : j < s.size), j < k + 1 → dig s[j] = true) := by
            intro j hj hjk
            by_cases e : j = k
            · subst e; unfold dig; rw [decide_eq_true (by omega), decide_eq_true (by omega)]; rfl
            · exact HI.out j hj (by omega)
          clear q0 q1
          go_wp2_with fail
          go_round
          case rel => exact ⟨k + 1, hlt, by go_num, HI2.out⟩
          case measure => simp [intOf]; omega
    · obtain rfl : k = s.size := by omega
      have hd2 : decide ((s.size : Int) < (s.size : Int)) = false := by simp
      have HE := Lib.hid (HR.out.trans (HA.out fun j hj => HI.out j hj hj))
      by_cases h0 : s.size = 0
      · have HV2 : Hid (R = 2) := HE.out.trans (if_pos (.inl h0))
        have HV3 : Hid (V = 0) := HVV.out.trans (if_neg (by rw [← HR.out, HV2.out]; decide))
        obtain rfl := HN.out h0
        clear hd2 hlt hk h0 hs hs5
        have hd2 : decide (((⟨#[]⟩ : ByteArray).size : Int) < ((⟨#[]⟩ : ByteArray).size : Int)) = false := by simp
        have e0 : ((⟨#[]⟩ : ByteArray).toList == []) = true := by decide +kernel
        go_wp2_with fail
        go_ret2
        exact ⟨by rw [HV2.out, HV3.out]; rfl, Below.refl _ _⟩
      · have hp : 0 < s.size := by omega
        have e0 : (s.toList == []) = false := bytes_ne_nil hp
        have e00 : s.toList.isEmpty = false := bytes_isEmpty hp
        have hh := HH.out hp
        by_cases q2 : ((s[0].toNat : Nat) : Int) = 48
        · have t2 : (((s[0].toNat : Nat) : Int) == 48) = true := by simp; omega
          have t2n : (s[0].toNat == 48) = true := by simp; omega
          have e48 : s[0] = 48 := by apply UInt8.toNat_inj.1; show s[0].toNat = 48; omega
          by_cases q3 : 1 < s.size
          · have t3 : decide ((1 : Int) < (s.size : Int)) = true := decide_eq_true (by omega)
            have t3n : decide (1 < s.size) = true := decide_eq_true q3
            have HV2 : Hid (R = 2) := HE.out.trans (if_pos (.inr ⟨q3, by rw [hh, e48]⟩))
            have HV3 : Hid (V = 0) := HVV.out.trans (if_neg (by rw [← HR.out, HV2.out]; decide))
            clear hh e48 q2
            go_wp2_with fail
            go_ret2
            exact ⟨by rw [HV2.out, HV3.out]; rfl, Below.refl _ _⟩
          · have t3 : decide ((1 : Int) < (s.size : Int)) = false := decide_eq_false (by omega)
            have t3n : decide (1 < s.size) = false := decide_eq_false q3
            have HV2 : Hid (R = 0) := HE.out.trans (by rw [if_neg (by omega), if_neg (by omega)])
            have HV3 : Hid (V = numV s) := HVV.out.trans (if_pos (by rw [← HR.out, HV2.out]))
            have CA2 := Lib.hid (CA.out (by rw [← HR.out, HV2.out]))
            have t4 : decide ((9 : Int) < (s.size : Int)) = false := decide_eq_false (by omega)
            have t4n : decide (9 < s.size) = false := decide_eq_false (by omega)
            clear hh e48 q2 CA
            go_wp2_with fail
            refine CA2.out.mono ?_
            rintro e w1 ⟨rfl, d1⟩
            have B1 := Lib.hid d1
            clear d1
            go_wp2_with fail
            go_ret2
            exact ⟨by rw [HV2.out, HV3.out]; rfl, B1.out⟩
        · have t2 : (((s[0].toNat : Nat) : Int) == 48) = false := by simp; omega
          have t2n : (s[0].toNat == 48) = false := by simp; omega
          have e48 : ¬ s[0] = 48 := fun e => q2 (by rw [e]; rfl)
          have hcond : ¬ (s.size = 0 ∨ (1 < s.size ∧ s.data.toList.head? = some 48)) := by
            rintro (e | ⟨_, e⟩)
            · omega
            · rw [hh] at e; exact e48 (Option.some.inj e)
          by_cases q4 : 9 < s.size
          · have t4 : decide ((9 : Int) < (s.size : Int)) = true := decide_eq_true (by omega)
            have t4n : decide (9 < s.size) = true := decide_eq_true q4
            have HV2 : Hid (R = 4) := HE.out.trans (by rw [if_neg hcond, if_pos q4])
            have HV3 : Hid (V = 0) := HVV.out.trans (if_neg (by rw [← HR.out, HV2.out]; decide))
            clear hh e48 q2 hcond
            go_wp2_with fail
            go_ret2
            exact ⟨by rw [HV2.out, HV3.out]; rfl, Below.refl _ _⟩
          · have t4 : decide ((9 : Int) < (s.size : Int)) = false := decide_eq_false (by omega)
            have t4n : decide (9 < s.size) = false := decide_eq_false q4
            have HV2 : Hid (R = 0) := HE.out.trans (by rw [if_neg hcond, if_neg q4])
            have HV3 : Hid (V = numV s) := HVV.out.trans (if_pos (by rw [← HR.out, HV2.out]))
            have CA2 := Lib.hid (CA.out (by rw [← HR.out, HV2.out]))
            clear hh e48 q2 hcond CA
            go_wp2_with fail
            refine CA2.out.mono ?_
            rintro e w1 ⟨rfl, d1⟩
            have B1 := Lib.hid d1
            clear d1
            go_wp2_with fail
            go_ret2
            exact ⟨by rw [HV2.out, HV3.out]; rfl, B1.out⟩

/-- a list of numbers in memory -/
def intsC (l : List Int) : List Value := l.map fun x => Value.int .i64 x
abbrev IntS (w : World) (v : Value) (l : List Int) : Prop := Sl w 1 v l.length (intsC l)
theorem intsC_succ {l : List Int} {k : Nat} (h : k < l.length) : intsC (l.take (k + 1)) = intsC (l.take k) ++ [.int .i64 l[k]] := by
  unfold intsC
  rw [List.take_succ_eq_append_getElem h, List.map_append]
  rfl
theorem numsE_drop {ws : List ByteArray} {k : Nat} (h : k < ws.length) : numsE (ws.drop k) = if numE ws[k] ≠ 0 then numE ws[k] else numsE (ws.drop (k + 1)) := by
  rw [List.drop_eq_getElem_cons h, numsE]
abbrev NumsPost (ws : List ByteArray) (w : World) (e : Ending) (w' : World) : Prop := ∃ (A : Option Addr) (n c : Nat), e = .returned (.tuple #[.slice A n c, .int .i64 (numsE ws)]) ∧ (numsE ws = 0 → n = ws.length ∧ w'.ownsRow w.heap.size 3 1 (.slice A n c) n (intsC (ws.map numV))) ∧ Below w.heap.size w w'
theorem int_info : (Tryd.prog.info? 3).map (fun i => (i.zero, i.size, i.bytes)) = some (some (.int .i64 0), 1, 8) := by kernel_rfl
set_option maxHeartbeats 2000000 in
set_option maxRecDepth 100000 in
theorem numbers_any (ws : List ByteArray) (v : Value) (w : World) (h : StrS w v ws) (hl : ws.length ≤ 5000) (hs : ∀ x ∈ ws, x.size ≤ 5000) : Calls Tryd.prog 113 #[v] w (NumsPost ws w) := by
  obtain ⟨j0, hj0, hy0, hy1, hy2⟩ := info_parts int_info
  obtain ⟨A, c, rfl, k1, k2, hr⟩ := sl_parts h
  have HR := Lib.hid hr
  have HS := Lib.hid (fun k (hk : k < ws.length) => hs ws[k] (List.getElem_mem hk))
  have HD := Lib.hid (fun k (hk : k < ws.length) => numsE_drop (ws := ws) hk)
  have HTK := Lib.hid (fun k (hk : k < (ws.map numV).length) => intsC_succ (l := ws.map numV) hk)
  have hll : (ws.length : Int) ≤ 5000 := by omega
  obtain ⟨R, hR⟩ : ∃ R, R = numsE ws := ⟨_, rfl⟩
  have HRR := Lib.hid hR
  unfold NumsPost
  rw [← hR]
  clear h hr hs hR
  go_enter Tryd.func113, Tryd.ntmps113
  go_wp2_with fail
  go_loopw [11, 4] (fun iv ov wr => ∃ (k : Nat) (A2 : Option Addr) (c2 : Nat), k ≤ ws.length ∧ iv = .int .i64 (k : Int) ∧ ov = .slice A2 k c2 ∧ Hid (R = numsE (ws.drop k)) ∧ Hid (wr.ownsRow w.heap.size 3 1 (.slice A2 k c2) k (intsC ((ws.map numV).take k))) ∧ Hid (Below w.heap.size w wr)) (fun iv _ _ => ws.length - (intOf iv).toNat)
  case atStart => exact ⟨0, none, 0, Nat.zero_le _, rfl, rfl, HRR.out, ⟨rfl, .inl ⟨rfl, rfl⟩⟩, Below.refl _ _⟩
  case round =>
    obtain ⟨k, A2, c2, hk, rfl, rfl, HX, HO, HB⟩ := hrel
    have hk0 : (0 : Int) ≤ (k : Int) := by omega
    by_cases hkn : k < ws.length
    · have hd1 : decide (k < ws.length) = true := decide_eq_true hkn
      have hd2 : decide ((k : Int) < (ws.length : Int)) = true := decide_eq_true (by omega)
      have hkn1 : (k : Int) < (ws.length : Int) := by omega
      obtain ⟨b, o, e1, hb, hrow⟩ := HR.out (by omega)
      subst e1
      have hat : wr.cell? ⟨b, o + k, none⟩ = some (.string ws[k]) := (HB.out.cell (p := ⟨b, o + k, none⟩) hb).trans (hrow k _ (by rw [List.getElem?_map, List.getElem?_eq_getElem hkn]; rfl))
      have hbr := Nat.lt_of_lt_of_le hb HB.out.size
      have HDK := Lib.hid (HX.out.trans (HD.out k hkn))
      have HTK1 := Lib.hid (HTK.out k (by simpa using hkn))
      have HM : Hid ((ws.map numV)[k]'(by simpa using hkn) = numV ws[k]) := by show _ = _; simp
      rw [HM.out] at HTK1
      have CN := Lib.hid (fun W => number_any ws[k] W (HS.out k hkn))
      generalize ws[k] = s at *
      clear HX HM
      unfold NumPost numR at CN
      by_cases hz : numE s = 0
      · rw [if_pos hz] at CN
        have HV := Lib.hid (HDK.out.trans (if_neg (fun e => e hz)))
        have t1 : (numE s != 0) = false := by rw [hz]; rfl
        generalize numV s = x at *
        clear hz HDK
        go_wp2_with fail
        refine (CN.out _).mono ?_
        rintro e w3 ⟨rfl, d3⟩
        have HO3 := Lib.hid (own_below HO.out d3)
        have HB3 := Lib.hid (chain0 HB.out d3)
        clear d3 HO HB hat hbr CN
        have hk5 : Hid (k ≤ 5000) := by show k ≤ 5000; omega
        go_wp2_with (at_builtin; refine wpList_append_own _ rfl _ _ 144 rfl w.heap.size 3 j0 _ 1 8 Tryd.underlying144 hj0 hy0 hy1 hy2 rfl (by decide) (.slice A2 k c2) k _ rfl (HO3.out.alloc _) ⟨w3.heap.size, 0, none⟩ 1 1 [.int .i64 x] rfl rfl (cells_new w3 _ _) (by intro u hu; simp at hu; subst hu; rfl) (by have := hk5.out; unfold maxLen; omega) (by have := hk5.out; omega) (by have := HB3.out.size; simp; omega) ?_)
        intro v' w4 hown hgr _
        obtain ⟨A5, c5, rfl⟩ := Gn.own_form hown
        have O5 : Hid (w4.ownsRow w.heap.size 3 1 (.slice A5 (k + 1) c5) (k + 1) (intsC ((ws.map numV).take (k + 1)))) := by show World.ownsRow _ _ _ _ _ _ _; rw [HTK1.out]; exact hown
        have B5 : Hid (Below w.heap.size w w4) := (HB3.out.alloc HB3.out.size _).grown hgr (by have := HB3.out.size; simp; omega) (fun q hq => (HO3.out.lt q hq).1)
        clear hown hgr HO3 HB3
        go_wp2_with fail
        go_roundw
        case rel => exact ⟨k + 1, A5, c5, hkn, by go_num, rfl, HV.out, O5.out, B5.out⟩
        case measure => simp [intOf]; omega
      · rw [if_neg hz] at CN
        have HV := Lib.hid (HDK.out.trans (if_pos hz))
        have t1 : (numE s != 0) = true := by simpa using hz
        clear hz HDK
        go_wp2_with fail
        refine (CN.out _).mono ?_
        rintro e w3 ⟨rfl, d3⟩
        have HB3 := Lib.hid (chain0 HB.out d3)
        clear d3
        go_wp2_with fail
        go_ret2
        exact ⟨none, 0, 0, by rw [HV.out]; rfl, fun e => absurd (HV.out.symm.trans e) (by simpa using t1), HB3.out⟩
    · obtain rfl : k = ws.length := by omega
      have hd1 : decide (ws.length < ws.length) = false := decide_eq_false (Nat.lt_irrefl _)
      have hd2 : decide ((ws.length : Int) < (ws.length : Int)) = false := decide_eq_false (Int.lt_irrefl _)
      have HV : Hid (R = 0) := by show R = 0; rw [HX.out, List.drop_length]; rfl
      have HO2 : Hid (wr.ownsRow w.heap.size 3 1 (.slice A2 ws.length c2) ws.length (intsC (ws.map numV))) := by have h := HO.out; rw [show (ws.map numV).take ws.length = ws.map numV by rw [show ws.length = (ws.map numV).length by simp, List.take_length]] at h; exact h
      go_wp2_with fail
      go_ret2
      exact ⟨A2, ws.length, c2, by rw [HV.out]; rfl, fun _ => ⟨rfl, HO2.out⟩, HB.out⟩
abbrev NamedPost (S : SetD) (w0 w1 : ByteArray) (w : World) (e : Ending) (w' : World) : Prop := ∃ i : Int, e = .returned (.tuple #[.int .i64 i, .int .i64 (nameE S w0 w1)]) ∧ (nameE S w0 w1 = 0 → eqB w0 wProd = false → eqB w0 wBid = false → i = idxW S w0 w1) ∧ Below w.heap.size w w'
set_option maxHeartbeats 2000000 in
set_option maxRecDepth 100000 in
theorem named_any (S : SetD) (v1 v2 v3 v4 : Value) (w0 w1 : ByteArray) (w : World) (h : SetW w v1 v2 v3 v4 S) (hw : widthW w0 ≠ 0) (hs : w1.size ≤ maxLen) : Calls Tryd.prog 112 #[.agg #[v1, v2, v3, v4], .string w0, .string w1] w (NamedPost S w0 w1 w) := by
  obtain ⟨A1, c1, A2, c2, A3, c3, A4, c4, rfl, rfl, rfl, rfl⟩ := h.forms
  have CI := Lib.hid (fun W => isName_any w1 W hs)
  have CB := Lib.hid (fun W (b : Below w.heap.size w W) => Ros.find_any S.bs _ w1 W h.lb (h.b.keep b))
  have CP := Lib.hid (fun W (b : Below w.heap.size w W) => Cat.find_any S.ps _ w1 W h.lp (h.p.keep b))
  have BX := Lib.hid (below_new w (.cells #[.slice A1 S.ps.length c1, .slice A2 S.bs.length c2, .slice A3 S.cs.length c3, .slice A4 S.ad.length c4] 43))
  have KX := Lib.hid (Blk.new w 43 #[.slice A1 S.ps.length c1, .slice A2 S.bs.length c2, .slice A3 S.cs.length c3, .slice A4 S.ad.length c4])
  have cx := KX.out.c4
  unfold NamedPost
  obtain ⟨R, hR⟩ : ∃ R, R = nameE S w0 w1 := ⟨_, rfl⟩
  obtain ⟨I, hI⟩ : ∃ I, I = idxW S w0 w1 := ⟨_, rfl⟩
  rw [← hR, ← hI]
  clear h hs
  cases h1 : eqB w0 wProd with
  | true =>
    have HV : Hid (R = if nameOk w1 then 0 else 5) := by show R = _; rw [hR]; unfold nameE; rw [if_pos h1]
    rw [lit_p] at h1
    clear hR hI hw
    go_enter Tryd.func112, Tryd.ntmps112
    go_wp2_with fail
    refine (CI.out _).mono ?_
    rintro e w2 ⟨rfl, rfl⟩
    cases hn : nameOk w1 with
    | true =>
      rw [hn] at HV
      go_wp2_with fail
      go_ret2
      exact ⟨_, by rw [HV.out]; rfl, fun _ h => by simp at h, BX.out⟩
    | false =>
      rw [hn] at HV
      go_wp2_with fail
      go_ret2
      exact ⟨_, by rw [HV.out]; rfl, fun _ h => by simp at h, BX.out⟩
  | false =>
  cases h2 : eqB w0 wBid with
  | true =>
    have HV : Hid (R = if nameOk w1 then 0 else 5) := by show R = _; rw [hR]; unfold nameE; rw [if_neg (by rw [h1]; simp), if_pos h2]
    rw [lit_p] at h1
    rw [lit_b] at h2
    clear hR hI hw
    go_enter Tryd.func112, Tryd.ntmps112
    go_wp2_with fail
    refine (CI.out _).mono ?_
    rintro e w2 ⟨rfl, rfl⟩
    cases hn : nameOk w1 with
    | true =>
      rw [hn] at HV
      go_wp2_with fail
      go_ret2
      exact ⟨_, by rw [HV.out]; rfl, fun _ _ h => by simp at h, BX.out⟩
    | false =>
      rw [hn] at HV
      go_wp2_with fail
      go_ret2
      exact ⟨_, by rw [HV.out]; rfl, fun _ _ h => by simp at h, BX.out⟩
  | false =>
  cases h3 : eqB w0 wCap with
  | true =>
    have HV : Hid (R = if eqB w1 wAny then 0 else if (findB S.bs w1).isSome then 0 else 6) := by show R = _; rw [hR]; unfold nameE; rw [if_neg (by rw [h1]; simp), if_neg (by rw [h2]; simp), if_pos h3]
    have HI : Hid (I = if eqB w1 wAny then -1 else (((findB S.bs w1).getD 0 : Nat) : Int)) := by show I = _; rw [hI]; unfold idxW; rw [if_pos h3]
    rw [lit_p] at h1
    rw [lit_b] at h2
    rw [lit_c] at h3
    clear hR hI hw
    cases h5 : eqB w1 wAny with
    | true =>
      rw [h5] at HV HI
      rw [lit_s] at h5
      have h5n : (w1.toList != [42]) = false := by simp only [bne, h5]; rfl
      go_enter Tryd.func112, Tryd.ntmps112
      go_wp2_with fail
      go_ret2
      exact ⟨_, by rw [HV.out]; rfl, (by intros; rw [HI.out]; rfl), BX.out⟩
    | false =>
      rw [h5] at HV HI
      rw [lit_s] at h5
      have h5n : (w1.toList != [42]) = true := by simp only [bne, h5]; rfl
      go_enter Tryd.func112, Tryd.ntmps112
      go_wp2_with fail
      refine (CB.out _ BX.out).mono ?_
      rintro e w2 ⟨rfl, d2⟩
      have B2 := Lib.hid (chain0 BX.out d2)
      clear d2
      have HF : Hid (Ros.findI S.bs w1 = (((findB S.bs w1).getD 0 : Nat) : Int)) := rfl
      have HK : Hid (Ros.findOk S.bs w1 = (findB S.bs w1).isSome) := rfl
      generalize Ros.findI S.bs w1 = fi at *
      cases hf : Ros.findOk S.bs w1 with
      | true =>
        have HV2 : Hid (R = 0) := by show R = 0; rw [HV.out, ← HK.out, hf]; rfl
        go_wp2_with fail
        go_ret2
        exact ⟨_, by rw [HV2.out]; rfl, (by intros; rw [HI.out, ← HF.out]; first | done | rfl), B2.out⟩
      | false =>
        have HV2 : Hid (R = 6) := by show R = 6; rw [HV.out, ← HK.out, hf]; rfl
        go_wp2_with fail
        go_ret2
        exact ⟨_, by rw [HV2.out]; rfl, fun e => absurd (HV2.out.symm.trans e) (by decide), B2.out⟩
  | false =>
    have h4 : eqB w0 wAsd = true := by
      cases h4 : eqB w0 wAsd with
      | true => rfl
      | false => exact absurd (by unfold widthW; rw [h1, h2, h3, h4]; rfl) hw
    have HV : Hid (R = if (findP S.ps w1).isSome then 0 else 6) := by show R = _; rw [hR]; unfold nameE; rw [if_neg (by rw [h1]; simp), if_neg (by rw [h2]; simp), if_neg (by rw [h3]; simp)]
    have HI : Hid (I = (((findP S.ps w1).getD 0 : Nat) : Int)) := by show I = _; rw [hI]; unfold idxW; rw [if_neg (by rw [h3]; simp)]
    rw [lit_p] at h1
    rw [lit_b] at h2
    rw [lit_c] at h3
    rw [lit_a] at h4
    clear hR hI hw
    go_enter Tryd.func112, Tryd.ntmps112
    go_wp2_with fail
    refine (CP.out _ BX.out).mono ?_
    rintro e w2 ⟨rfl, d2⟩
    have B2 := Lib.hid (chain0 BX.out d2)
    clear d2
    have HF : Hid (Cat.findI S.ps w1 = (((findP S.ps w1).getD 0 : Nat) : Int)) := rfl
    have HK : Hid (Cat.findOk S.ps w1 = (findP S.ps w1).isSome) := rfl
    generalize Cat.findI S.ps w1 = fi at *
    cases hf : Cat.findOk S.ps w1 with
    | true =>
      have HV2 : Hid (R = 0) := by show R = 0; rw [HV.out, ← HK.out, hf]; rfl
      go_wp2_with fail
      go_ret2
      exact ⟨_, by rw [HV2.out]; rfl, (by intros; rw [HI.out, ← HF.out]; first | done | rfl), B2.out⟩
    | false =>
      have HV2 : Hid (R = 6) := by show R = 6; rw [HV.out, ← HK.out, hf]; rfl
      go_wp2_with fail
      go_ret2
      exact ⟨_, by rw [HV2.out]; rfl, fun e => absurd (HV2.out.symm.trans e) (by decide), B2.out⟩

end Go.Proofs.YtjjlhihocllgjaaDoor.Se
