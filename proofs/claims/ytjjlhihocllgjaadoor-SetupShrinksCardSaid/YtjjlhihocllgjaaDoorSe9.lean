/- Contract of setup.Parse. Printed by gen_se9.py. -/
import Derived.Test.YtjjlhihocllgjaaDoorSe8
namespace Go.Proofs.YtjjlhihocllgjaaDoor.Se
open Go.ChangeShapes Go.WideShapes Go.ChangeAt Go.RowKit Gn Cat Lex Ros
set_option linter.unusedVariables false
set_option linter.unusedSimpArgs false
/-- a first result that lies in a cell, two more in slots -/
theorem results_blk_tmp2 {P : Program} {fn : Func} {p u u2 : Tmp} {ty : TypeId} (h : fn.results = #[.cell p ty, .tmp u, .tmp u2]) {tmps : Array Value} {w : World} {g : Nat} {t : TypeId} {cs : Array Value} {d : TypeDesc}
    (hp : tmps.getD p undef = .pointer (some ⟨g, 0, none⟩)) (hg : Blk w g t cs)
    (hu : P.underlying ty = some d) (hd : (match d with | .struct _ | .array _ _ => true | _ => false) = true) (hi : (P.info? ty).map (·.size) = some cs.size) {x y : Value} (hx : tmps.getD u undef = x) (hy : tmps.getD u2 undef = y) :
    (results fn tmps).run P w = .ok (.tuple #[.agg cs, x, y]) w := by
  subst hx hy
  have hp' : tmps[p]?.getD undef = .pointer (some ⟨g, 0, none⟩) := by simpa using hp
  simp [results, h, hp', asAddr, run_loadVar_row w g t ty cs (0, 0) d hg hu hd hi]
/-- how long the lists of a setup are that was read off k lines, and its names -/
structure Sz (S : SetD) (k : Nat) : Prop where
  p : S.ps.length ≤ k
  b : S.bs.length ≤ k
  c : S.cs.length ≤ k
  a : S.ad.length ≤ k
  np : ∀ p ∈ S.ps, p.name.size ≤ 5000
  nb : ∀ p ∈ S.bs, p.name.size ≤ 5000
theorem sz_none : Sz SetD.none 0 := ⟨Nat.le_refl _, Nat.le_refl _, Nat.le_refl _, Nat.le_refl _, (fun p h => by cases h), fun p h => by cases h⟩
theorem Sz.le {S : SetD} {k m : Nat} (h : Sz S k) (hm : k ≤ m) : Sz S m := ⟨Nat.le_trans h.p hm, Nat.le_trans h.b hm, Nat.le_trans h.c hm, Nat.le_trans h.a hm, h.np, h.nb⟩
theorem wd_size {ws : List ByteArray} (h : ∀ x ∈ ws, x.size ≤ 5000) (i : Nat) : (wd ws i).size ≤ 5000 := by
  unfold wd
  by_cases hi : i < ws.length
  · rw [show ws.getD i ⟨#[]⟩ = ws[i] by simp [List.getD, hi]]
    exact h _ (List.getElem_mem hi)
  · rw [show ws.getD i ⟨#[]⟩ = ⟨#[]⟩ by simp [List.getD, List.getElem?_eq_none (Nat.le_of_not_lt hi)]]
    decide
theorem sz_step {S : SetD} {k : Nat} {ws : List ByteArray} (h : Sz S k) (hs : ∀ x ∈ ws, x.size ≤ 5000) : Sz (stepW S ws) (k + 1) := by
  obtain ⟨h1, h2, h3, h4, h5, h6⟩ := h
  have hw := wd_size hs 1
  unfold stepW
  split
  · refine ⟨by simp; omega, by simp; omega, by simp; omega, by simp; omega, fun p hp => ?_, h6⟩
    rcases List.mem_append.1 hp with hp | hp
    · exact h5 p hp
    · rw [List.mem_singleton.1 hp]; exact hw
  · split
    · refine ⟨by simp; omega, by simp; omega, by simp; omega, by simp; omega, h5, fun p hp => ?_⟩
      rcases List.mem_append.1 hp with hp | hp
      · exact h6 p hp
      · rw [List.mem_singleton.1 hp]; exact hw
    · split
      · exact ⟨by simp; omega, by simp; omega, by simp; omega, by simp; omega, h5, h6⟩
      · exact ⟨by simp; omega, by simp; omega, by simp; omega, by simp; omega, h5, h6⟩
theorem readGo_drop {S : SetD} {ls : List ByteArray} {k : Nat} (h : k < ls.length) : readGo S (ls.drop k) k = if ls[k].size = 0 then readGo S (ls.drop (k + 1)) (k + 1) else if lineE S (splitS 32 ls[k]) ≠ 0 then .error (k + 1, lineE S (splitS 32 ls[k])) else readGo (stepW S (splitS 32 ls[k])) (ls.drop (k + 1)) (k + 1) := by
  rw [List.drop_eq_getElem_cons h, readGo]
theorem readS_long {t : ByteArray} (h : 4000 < t.size) : readS t = ⟨SetD.none, 0, 3⟩ := by unfold readS; rw [if_pos h]
theorem readS_err {t : ByteArray} (h : ¬ 4000 < t.size) {n : Nat} {e : Int} (h2 : readGo SetD.none (splitS 10 t) 0 = .error (n, e)) : readS t = ⟨SetD.none, (n : Int), e⟩ := by unfold readS; rw [if_neg h, h2]
theorem readS_ok {t : ByteArray} (h : ¬ 4000 < t.size) {S : SetD} (h2 : readGo SetD.none (splitS 10 t) 0 = .ok S) : readS t = if S.err ≠ 0 then ⟨SetD.none, 0, S.err⟩ else ⟨S, 0, 0⟩ := by unfold readS; rw [if_neg h, h2]
abbrev nil4 : Array Value := #[.slice none 0 0, .slice none 0 0, .slice none 0 0, .slice none 0 0]
theorem rd_none (w : World) (base : Nat) (h : base ≤ w.heap.size) : Rd (w.alloc (.cells nil4 43)) base w.heap.size SetD.none :=
  ⟨none, none, none, none, 0, 0, 0, 0, Blk.new w _ _, ⟨rfl, .inl ⟨rfl, rfl⟩⟩, ⟨rfl, .inl ⟨rfl, rfl⟩⟩, ⟨rfl, .inl ⟨rfl, rfl⟩⟩, ⟨rfl, .inl ⟨rfl, rfl⟩⟩, h⟩
theorem setW_none (w : World) : SetW w (.slice none 0 0) (.slice none 0 0) (.slice none 0 0) (.slice none 0 0) SetD.none :=
  ⟨Sl.nil w 5, Sl.nil w 4, Sl.nil w 3, Sl.nil w 3, Nat.zero_le _, Nat.zero_le _, Nat.zero_le _, Nat.zero_le _, (fun p h => by cases h), fun p h => by cases h⟩
def ParsePost (R : ReadR) (w : World) (e : Ending) (w' : World) : Prop := ∃ v1 v2 v3 v4, e = .returned (.tuple #[.agg #[v1, v2, v3, v4], .int .i64 R.n, .int .i64 R.e]) ∧ SetW w' v1 v2 v3 v4 R.S ∧ Below w.heap.size w w'
theorem put4b {w : World} {g : Nat} {t : TypeId} {a b c d a2 b2 c2 d2 : Value} (h : Blk w g t #[a, b, c, d]) : Blk ((((w.setCell ⟨g, 0, none⟩ a2).setCell ⟨g, 1, none⟩ b2).setCell ⟨g, 2, none⟩ c2).setCell ⟨g, 3, none⟩ d2) g t #[a2, b2, c2, d2] := (((h.put 0 a2).put 1 b2).put 2 c2).put 3 d2
theorem below4b {B : Nat} {w w' : World} {g : Nat} (h : Below B w w') (hg : B ≤ g) (a b c d : Value) : Below B w ((((w'.setCell ⟨g, 0, none⟩ a).setCell ⟨g, 1, none⟩ b).setCell ⟨g, 2, none⟩ c).setCell ⟨g, 3, none⟩ d) :=
  (((h.setCell (p := ⟨g, 0, none⟩) hg a).setCell (p := ⟨g, 1, none⟩) hg b).setCell (p := ⟨g, 2, none⟩) hg c).setCell (p := ⟨g, 3, none⟩) hg d
theorem tl_nil {s : ByteArray} (h : s.size = 0) : s.toList.isEmpty = true := by
  have e : s = ⟨#[]⟩ := by
    obtain ⟨⟨l⟩⟩ := s
    cases l with
    | nil => rfl
    | cons a l => exact absurd h (by show ¬ (a :: l).length = 0; simp)
  subst e
  rw [ByteArray.toList_eq]
  rfl
theorem own_put4 {w : World} {base e s n g : Nat} {t : TypeId} {a b c d a2 b2 c2 d2 : Value} {v : Value} {xs : List Value} (h : w.ownsRow base e s v n xs) (k : Blk w g t #[a, b, c, d]) (hne : e ≠ t) : ((((w.setCell ⟨g, 0, none⟩ a2).setCell ⟨g, 1, none⟩ b2).setCell ⟨g, 2, none⟩ c2).setCell ⟨g, 3, none⟩ d2).ownsRow base e s v n xs :=
  own_put (own_put (own_put (own_put h k hne) (k.put 0 a2) hne) ((k.put 0 a2).put 1 b2) hne) (((k.put 0 a2).put 1 b2).put 2 c2) hne
theorem setW_put4 {w : World} {base gs g : Nat} {S : SetD} {A1 A2 A3 A4 : Option Addr} {c1 c2 c3 c4 : Nat} {a b c d a2 b2 c2' d2 : Value} (h : Rdp w base gs S A1 A2 A3 A4 c1 c2 c3 c4) (k : Blk w g 43 #[a, b, c, d]) (q : SetW w (.slice A1 S.ps.length c1) (.slice A2 S.bs.length c2) (.slice A3 S.cs.length c3) (.slice A4 S.ad.length c4) S) :
    SetW ((((w.setCell ⟨g, 0, none⟩ a2).setCell ⟨g, 1, none⟩ b2).setCell ⟨g, 2, none⟩ c2').setCell ⟨g, 3, none⟩ d2) (.slice A1 S.ps.length c1) (.slice A2 S.bs.length c2) (.slice A3 S.cs.length c3) (.slice A4 S.ad.length c4) S :=
  ⟨Sl.of_own (own_put4 h.o1 k (by decide)), Sl.of_own (own_put4 h.o2 k (by decide)), Sl.of_own (own_put4 h.o3 k (by decide)), Sl.of_own (own_put4 h.o4 k (by decide)), q.lp, q.lb, q.lc, q.la, q.np, q.nb⟩
set_option maxHeartbeats 4000000 in
set_option maxRecDepth 100000 in
theorem parse_any (t : ByteArray) (w : World) (hs : t.size ≤ 140737488355328) (ht : Env w) : Calls Tryd.prog 40 #[.string t] w (ParsePost (readS t) w) := by
  have hsi : (t.size : Int) ≤ 140737488355328 := by omega
  have BX := Lib.hid (below_new w (.cells nil4 43))
  have KX := Lib.hid (Blk.new w 43 nil4)
  have kx := KX.out.c4
  obtain ⟨R, hR⟩ : ∃ R, R = readS t := ⟨_, rfl⟩
  have HR := Lib.hid hR
  rw [← hR]
  clear hR
  unfold ParsePost
  by_cases h4 : 4000 < t.size
  · have t1 : decide ((4000 : Int) < (t.size : Int)) = true := decide_eq_true (by omega)
    have HV := Lib.hid (HR.out.trans (readS_long h4))
    clear h4 hs
    go_enter Tryd.func40, Tryd.ntmps40
    go_wp2_with fail
    refine bodyPost_ret (v := .tuple #[.agg nil4, .int .i64 0, .int .i64 3]) (results_blk_tmp2 rfl rfl KX.out Tryd.underlying43 rfl (by kernel_rfl) rfl rfl) rfl ⟨_, _, _, _, by rw [HV.out], by rw [HV.out]; exact setW_none _, BX.out⟩
  · have t1 : decide ((4000 : Int) < (t.size : Int)) = false := decide_eq_false (by omega)
    obtain ⟨ls, hls⟩ : ∃ ls, ls = splitS 10 t := ⟨_, rfl⟩
    have HLS := Lib.hid hls
    have HR0 := HR.out
    have HLZ : Hid (∀ x ∈ ls, x.size ≤ 4000) := fun x hx => Nat.le_trans (splitS_size (by rw [hls] at hx; exact hx)) (by omega)
    have hln : ls.length ≤ 4001 := by rw [hls]; exact Nat.le_trans (splitS_len 10 t) (by omega)
    have hlp : 0 < ls.length := by rw [hls]; exact splitS_pos 10 t
    have HO := Lib.hid (fun (S : SetD) (h2 : readGo SetD.none ls 0 = .ok S) => HR0.trans (readS_ok (S := S) h4 (by rw [← hls]; exact h2)))
    have HE := Lib.hid (fun (n : Nat) (e : Int) (h2 : readGo SetD.none ls 0 = .error (n, e)) => HR0.trans (readS_err (n := n) (e := e) h4 (by rw [← hls]; exact h2)))
    obtain ⟨w1, hw1⟩ : ∃ w1, w1 = w.alloc (.cells nil4 43) := ⟨_, rfl⟩
    have B1 : Hid (Below w.heap.size w w1) := by show Below _ _ _; rw [hw1]; exact BX.out
    have K1 : Hid (Blk w1 w.heap.size 43 nil4) := by show Blk _ _ _ _; rw [hw1]; exact KX.out
    have s1 : w1.heap.size = w.heap.size + 1 := by rw [hw1]; exact World.size_alloc _ _
    have CS := Lib.hid (split_any 10 t)
    have HEN := Lib.hid (fun W (b : Below w.heap.size w W) => ht.keep b)
    have h4i : (t.size : Int) ≤ 4000 := by omega
    clear h4 hs BX KX kx HR HR0
    go_enter Tryd.func40, Tryd.ntmps40
    go_wp2_with fail
    have HBW : Hid (Below w.heap.size w ((w.alloc (.cells nil4 43)).alloc (.cells nil4 43))) := by
      have h2 := (B1.out.alloc B1.out.size (.cells nil4 43))
      rw [hw1] at h2
      exact h2
    have HKW : Hid (Blk ((w.alloc (.cells nil4 43)).alloc (.cells nil4 43)) w.heap.size 43 nil4) := by
      have h2 := K1.out.below' (below_new w1 (.cells nil4 43))
      rw [hw1] at h2
      exact h2
    have HRW : Hid (Rd ((w.alloc (.cells nil4 43)).alloc (.cells nil4 43)) (w.heap.size + 1) (w.heap.size + 1) SetD.none) := by
      have h2 := rd_none w1 (w.heap.size + 1) (by omega)
      rw [s1] at h2
      rw [hw1] at h2
      exact h2
    have hsz2 : ((w.alloc (.cells nil4 43)).alloc (.cells nil4 43)).heap.size = w.heap.size + 2 := by rw [World.size_alloc, ← hw1, s1]
    refine (CS.out _ (by omega) (HEN.out _ HBW.out)).mono ?_
    rintro e w3 ⟨rfl, rfl⟩
    rw [hsz2]
    rw [← HLS.out]
    generalize hw2 : (w.alloc (.cells nil4 43)).alloc (.cells nil4 43) = w2 at *
    have B3 := Lib.hid (HBW.out.alloc HBW.out.size (.cells (ls.map Value.string).toArray 9))
    have K3 := Lib.hid (HKW.out.below' (below_new w2 (.cells (ls.map Value.string).toArray 9)))
    have R3 := Lib.hid (HRW.out.keep (below_new w2 (.cells (ls.map Value.string).toArray 9)))
    have L3 : Hid (Blk (w2.alloc (.cells (ls.map Value.string).toArray 9)) (w.heap.size + 2) 9 (ls.map Value.string).toArray) := by
      have h2 := Blk.new w2 9 (ls.map Value.string).toArray
      rw [hsz2] at h2
      exact h2
    clear HBW HKW HRW CS B1 K1 hw2 hw1 s1 w1
    generalize w2.alloc (.cells (ls.map Value.string).toArray 9) = w3 at *
    clear hsz2
    have hlc : (ls.length : Int) ≤ 4001 := by omega
    clear hls
    go_wp2_with fail
    go_loopw [17] (fun i wr => ∃ (k : Nat) (S : SetD), k ≤ ls.length ∧ i = .int .i64 k ∧ Hid (readGo SetD.none ls 0 = readGo S (ls.drop k) k) ∧ Hid (Rd wr (w.heap.size + 1) (w.heap.size + 1) S) ∧ Hid (Blk wr (w.heap.size + 2) 9 (ls.map Value.string).toArray) ∧ Hid (Blk wr w.heap.size 43 nil4) ∧ Hid (Below w.heap.size w wr) ∧ Hid (Sz S k)) (fun i _ => ls.length - (intOf i).toNat)
    case atStart => exact ⟨0, SetD.none, by omega, rfl, rfl, R3.out, L3.out, K3.out, B3.out, sz_none⟩
    case round =>
      obtain ⟨k, S, hk, rfl, HGO, HRD, HBL, HKG, HB, HSZ⟩ := hrel
      by_cases hkn : k < ls.length
      · have hd : decide ((k : Int) < (ls.length : Int)) = true := decide_eq_true (by omega)
        obtain ⟨l, hl⟩ : ∃ l, l = ls[k] := ⟨_, rfl⟩
        have HL := Lib.hid hl
        have hlz : Hid (l.size ≤ 4000) := by show l.size ≤ 4000; rw [hl]; exact HLZ.out _ (List.getElem_mem hkn)
        have hcl : wr.cell? ⟨w.heap.size + 2, k, none⟩ = some (.string l) := by
          rw [HBL.out.cell, hl]
          simp [hkn]
        have hgo := HGO.out.trans (readGo_drop hkn)
        rw [← hl] at hgo
        have HGO2 := Lib.hid hgo
        have hlt2 : w.heap.size + 2 < wr.heap.size := HBL.out.lt
        clear hgo hl HGO
        by_cases hl0 : l.size = 0
        · have he : l.toList.isEmpty = true := tl_nil hl0
          have HGO3 := Lib.hid (HGO2.out.trans (if_pos hl0))
          have HRD3 := Lib.hid HRD.out
          clear hl0
          go_wp2_with fail
          go_roundw
          case rel => exact ⟨k + 1, S, by omega, by go_num, HGO3.out, HRD.out, HBL.out, HKG.out, HB.out, HSZ.out.le (Nat.le_succ k)⟩
          case measure => simp [intOf]; omega
        · have he : l.toList.isEmpty = false := tl_ne (by omega)
          have HGO3 := Lib.hid (HGO2.out.trans (if_neg hl0))
          obtain ⟨ws, hws⟩ : ∃ ws, ws = splitS 32 l := ⟨_, rfl⟩
          have HWZ : Hid (∀ x ∈ ws, x.size ≤ 5000) := fun x hx => Nat.le_trans (splitS_size (by rw [hws] at hx; exact hx)) (Nat.le_trans hlz.out (by decide))
          have HWN : Hid (0 < ws.length) := by show 0 < ws.length; rw [hws]; exact splitS_pos 32 l
          have HWL : Hid (ws.length ≤ 4001) := by show ws.length ≤ 4001; rw [hws]; exact Nat.le_trans (splitS_len 32 l) (Nat.succ_le_succ hlz.out)
          rw [← hws] at HGO3
          have HWS := Lib.hid hws
          have CS := Lib.hid (split_any 32 l wr (Nat.le_trans hlz.out (by decide)) (HEN.out _ HB.out))
          rw [← hws] at CS
          clear hl0 HGO2 hws
          go_wp2_with fail
          refine CS.out.mono ?_
          rintro e w4 ⟨rfl, rfl⟩
          obtain ⟨b, hb⟩ : ∃ b, b = wr.heap.size := ⟨_, rfl⟩
          have BX := Lib.hid (below_new wr (.cells (ws.map Value.string).toArray 9))
          have KX := Lib.hid (Blk.new wr 9 (ws.map Value.string).toArray)
          rw [← hb] at KX
          rw [← hb]
          have B4 := Lib.hid (chain0 HB.out BX.out)
          have HKG4 := Lib.hid (HKG.out.below' BX.out)
          have HBL4 := Lib.hid (HBL.out.below' BX.out)
          have HRD4 := Lib.hid (HRD.out.keep BX.out)
          clear hb CS BX
          generalize wr.alloc (.cells (ws.map Value.string).toArray 9) = w4 at *
          have HKB := Lib.hid KX.out.lt
          have CR := Lib.hid (read_any S ws (w.heap.size + 1) (w.heap.size + 1) b w4 HRD4.out KX.out KX.out.lt HWN.out HWZ.out ⟨by have := HSZ.out.p; omega, by have := HSZ.out.b; omega, by have := HSZ.out.c; omega, by have := HSZ.out.a; omega⟩ (fun p h => Nat.le_trans (HSZ.out.np p h) (by decide)) (fun p h => Nat.le_trans (HSZ.out.nb p h) (by decide)) (Nat.le_trans HWL.out (by decide)))
          go_wp2_with fail
          refine CR.out.mono ?_
          rintro e w5 ⟨rfl, d1, d2, d3⟩
          have D1 := Lib.hid d1
          have D2 := Lib.hid d2
          have B5 : Hid (Below w.heap.size w w5) := B4.out.trans (d1.mono (Nat.le_succ _))
          have HKG5 := Lib.hid (HKG4.out.below d1 (Nat.lt_succ_self _))
          have HBL5 := Lib.hid (d3 _ _ HBL4.out)
          clear d1 d2 d3 CR
          by_cases hE : lineE S ws = 0
          · have t5 : (lineE S ws != 0) = false := by rw [hE]; rfl
            have HR5 := Lib.hid (D2.out hE)
            have HGO4 := Lib.hid (HGO3.out.trans (if_neg (fun h => h hE)))
            have HS5 := Lib.hid (sz_step HSZ.out HWZ.out)
            clear hE
            go_wp2_with fail
            go_roundw
            case rel => exact ⟨k + 1, stepW S ws, by omega, by go_num, HGO4.out, HR5.out, HBL5.out, HKG5.out, B5.out, HS5.out⟩
            case measure => simp [intOf]; omega
          · have t5 : (lineE S ws != 0) = true := by simpa using hE
            have HGO4 := Lib.hid (HGO3.out.trans (if_pos hE))
            have HV := Lib.hid (HE.out _ _ HGO4.out)
            have kx := HKG5.out.c4
            have kl := HKG5.out.lt
            clear hE
            go_wp2_with fail
            exact bodyPost_ret (v := .tuple #[.agg nil4, .int .i64 ((k : Int) + 1), .int .i64 (lineE S ws)]) (results_blk_tmp2 rfl rfl (put4b HKG5.out) Tryd.underlying43 rfl (by kernel_rfl) rfl rfl) rfl ⟨_, _, _, _, by rw [HV.out]; rfl, by rw [HV.out]; exact setW_none _, below4b B5.out (Nat.le_refl _) _ _ _ _⟩
      · obtain rfl : k = ls.length := by omega
        have hd : decide (((ls.length : Nat) : Int) < (ls.length : Int)) = false := decide_eq_false (by omega)
        have hgo := HGO.out
        rw [List.drop_length] at hgo
        have HV := Lib.hid (HO.out S (by rw [hgo]; rfl))
        obtain ⟨A1, A2, A3, A4, c1, c2, c3, c4, hR⟩ := HRD.out
        have HRP := Lib.hid hR
        have HSW : Hid (SetW wr (.slice A1 S.ps.length c1) (.slice A2 S.bs.length c2) (.slice A3 S.cs.length c3) (.slice A4 S.ad.length c4) S) := hR.setW ⟨by have := HSZ.out.p; omega, by have := HSZ.out.b; omega, by have := HSZ.out.c; omega, by have := HSZ.out.a; omega⟩ (fun p h => Nat.le_trans (HSZ.out.np p h) (by decide)) (fun p h => Nat.le_trans (HSZ.out.nb p h) (by decide))
        have CC := Lib.hid (check_any S _ _ _ _ wr HSW.out)
        have gk := hR.k.c4
        have gl := hR.k.lt
        clear hgo hR
        go_wp2_with fail
        refine CC.out.mono ?_
        rintro e w5 ⟨rfl, d1⟩
        have B5 := Lib.hid (chain0 HB.out d1)
        have HKG5 := Lib.hid (HKG.out.below' d1)
        have HSK := Lib.hid (HRP.out.k.below' d1)
        have HRP5 := Lib.hid (HRP.out.keep d1)
        have HS5 := Lib.hid (HSW.out.keep d1)
        have kx := HKG5.out.c4
        have kl := HKG5.out.lt
        have gk5 := HSK.out.c4
        have gl5 := HSK.out.lt
        clear d1 CC gk gl
        by_cases hE : S.err = 0
        · have t5 : (S.err != 0) = false := by rw [hE]; rfl
          have HV2 := Lib.hid (HV.out.trans (if_neg (fun h => h hE)))
          clear hE
          go_wp2_with fail
          exact bodyPost_ret (v := .tuple #[.agg #[.slice A1 S.ps.length c1, .slice A2 S.bs.length c2, .slice A3 S.cs.length c3, .slice A4 S.ad.length c4], .int .i64 0, .int .i64 0]) (results_blk_tmp2 rfl rfl (put4b HKG5.out) Tryd.underlying43 rfl (by kernel_rfl) rfl rfl) rfl ⟨_, _, _, _, by rw [HV2.out], by rw [HV2.out]; exact setW_put4 HRP5.out HKG5.out HS5.out, below4b B5.out (Nat.le_refl _) _ _ _ _⟩
        · have t5 : (S.err != 0) = true := by simpa using hE
          have HV2 := Lib.hid (HV.out.trans (if_pos hE))
          clear hE
          go_wp2_with fail
          exact bodyPost_ret (v := .tuple #[.agg nil4, .int .i64 (0), .int .i64 (S.err)]) (results_blk_tmp2 rfl rfl (put4b HKG5.out) Tryd.underlying43 rfl (by kernel_rfl) rfl rfl) rfl ⟨_, _, _, _, by rw [HV2.out], by rw [HV2.out]; exact setW_none _, below4b B5.out (Nat.le_refl _) _ _ _ _⟩

end Go.Proofs.YtjjlhihocllgjaaDoor.Se
