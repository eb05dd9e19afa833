/- The reference's Parse. Printed by gen_seZ.py. -/
import Derived.Test.YtjjlhihocllgjaaGreatDoorSeY
import Derived.Test.YtjjlhihocllgjaaGreatDoorSeD
import Derived.Deep.Onto
namespace Go.Proofs.YtjjlhihocllgjaaGreatDoor.Se
open Go.ChangeShapes Go.WideShapes Go.ChangeAt Go.RowKit Gn Cat Lex Ros
set_option linter.unusedVariables false
set_option linter.unusedSimpArgs false
attribute [local go_sem] later_cell
/-- the memory of the reference's Parse at work: the result's block, the setup's, the lines -/
structure LpN (w W : World) (cs : Array Value) (lb lc : Nat) (ls : List ByteArray) : Prop where
  z : Blk W w.heap.size 38 nil4
  k : Blk W (w.heap.size + 1) 38 cs
  l : W.ownsRow w.heap.size 9 1 (.slice (some ⟨lb, 0, none⟩) ls.length lc) ls.length (ls.map Value.string)
  bel : Below w.heap.size w W
theorem LpN.keep {w W W' : World} {cs : Array Value} {lb lc : Nat} {ls : List ByteArray} (h : LpN w W cs lb lc ls) (d : Below W.heap.size W W') : LpN w W' cs lb lc ls := ⟨h.z.below' d, h.k.below' d, own_below h.l d, chain0 h.bel d⟩
theorem LpN.line {w W W' : World} {cs : Array Value} {lb lc : Nat} {ls : List ByteArray} (h : LpN w W cs lb lc ls) (d : Below w.heap.size W W') (kp : Kp W W') : LpN w W' cs lb lc ls := ⟨kp.t _ _ h.z, kp.t _ _ h.k, kp.s _ _ _ _ h.l, h.bel.trans d⟩
theorem LpN.put {w W : World} {a b c d : Value} {lb lc : Nat} {ls : List ByteArray} (h : LpN w W #[a, b, c, d] lb lc ls) (a2 b2 c2 d2 : Value) : LpN w (put4w W (w.heap.size + 1) a2 b2 c2 d2) #[a2, b2, c2, d2] lb lc ls :=
  ⟨by
    have hn : w.heap.size ≠ w.heap.size + 1 := by omega
    exact (((h.z.far (p := ⟨w.heap.size + 1, 0, none⟩) hn _).far (p := ⟨w.heap.size + 1, 1, none⟩) hn _).far (p := ⟨w.heap.size + 1, 2, none⟩) hn _).far (p := ⟨w.heap.size + 1, 3, none⟩) hn _,
   put4b h.k, own_put4 h.l h.k (by decide), below4b h.bel (by omega) _ _ _ _⟩
/-- four stores into a new block change nothing that is older -/
theorem LpN.far {w W : World} {cs : Array Value} {lb lc g : Nat} {ls : List ByteArray} {a b c d : Value} (h : LpN w W cs lb lc ls) (k : Blk W g 38 #[a, b, c, d]) (hg : w.heap.size + 1 < g) (a2 b2 c2 d2 : Value) : LpN w (put4w W g a2 b2 c2 d2) cs lb lc ls :=
  ⟨(((h.z.far (p := ⟨g, 0, none⟩) (by show _ ≠ g; omega) _).far (p := ⟨g, 1, none⟩) (by show _ ≠ g; omega) _).far (p := ⟨g, 2, none⟩) (by show _ ≠ g; omega) _).far (p := ⟨g, 3, none⟩) (by show _ ≠ g; omega) _,
   (((h.k.far (p := ⟨g, 0, none⟩) (by show _ ≠ g; omega) _).far (p := ⟨g, 1, none⟩) (by show _ ≠ g; omega) _).far (p := ⟨g, 2, none⟩) (by show _ ≠ g; omega) _).far (p := ⟨g, 3, none⟩) (by show _ ≠ g; omega) _,
   own_put4 h.l k (by decide), below4b h.bel (by omega) _ _ _ _⟩
/-- the bidders' names are names -/
theorem step_names {S : SetD} {ws : List ByteArray} (h : ∀ p ∈ S.bs, nameOk p.name = true) (hz : lineE S ws = 0) : ∀ p ∈ (stepW S ws).bs, nameOk p.name = true := by
  have hn : nameE S (wd ws 0) (wd ws 1) = 0 := by
    unfold lineE at hz
    split at hz
    · cases hz
    · split at hz
      · cases hz
      · split at hz
        · rename_i h3; exact absurd hz h3
        · rename_i h3; exact Decidable.of_not_not h3
  unfold stepW
  split
  · exact h
  · rename_i h1
    split
    · rename_i h2
      intro p hp
      rcases List.mem_append.1 hp with hp | hp
      · exact h p hp
      · rw [List.mem_singleton.1 hp]
        unfold nameE at hn
        rw [if_neg h1, if_pos h2] at hn
        show nameOk (wd ws 1) = true
        cases e : nameOk (wd ws 1) with
        | true => rfl
        | false => rw [e] at hn; exact absurd hn (by decide)
    · split
      · exact h
      · exact h
theorem rw_none (w : World) (base : Nat) : Rw w base SetD.none none none none none 0 0 0 0 := ⟨⟨rfl, .inl ⟨rfl, rfl⟩⟩, ⟨rfl, .inl ⟨rfl, rfl⟩⟩, ⟨rfl, .inl ⟨rfl, rfl⟩⟩, ⟨rfl, .inl ⟨rfl, rfl⟩⟩⟩
theorem Rw.setW {w : World} {base : Nat} {S : SetD} {A1 A2 A3 A4 : Option Addr} {c1 c2 c3 c4 : Nat} (h : Rw w base S A1 A2 A3 A4 c1 c2 c3 c4) (hl : S.ps.length ≤ 4500 ∧ S.bs.length ≤ 4500 ∧ S.cs.length ≤ 4500 ∧ S.ad.length ≤ 4500) (hp : ∀ p ∈ S.ps, p.name.size ≤ maxLen) (hb : ∀ p ∈ S.bs, p.name.size ≤ maxLen) : SetW w (.slice A1 S.ps.length c1) (.slice A2 S.bs.length c2) (.slice A3 S.cs.length c3) (.slice A4 S.ad.length c4) S :=
  ⟨Sl.of_own h.o1, Sl.of_own h.o2, Sl.of_own h.o3, Sl.of_own h.o4, by omega, by omega, by omega, by omega, hp, hb⟩

set_option maxHeartbeats 8000000 in
set_option maxRecDepth 100000 in
theorem rparse_any (t : ByteArray) (w : World) (hs : t.size ≤ 140737488355328) : Calls Tryz.prog 21 #[.string t] w (ParsePost (readS t) w) := by
  have hsi : (t.size : Int) ≤ 140737488355328 := by omega
  have BX := Lib.hid (below_new w (.cells nil4 38))
  have KX := Lib.hid (Blk.new w 38 nil4)
  have kx := KX.out.c4
  obtain ⟨R, hR⟩ : ∃ R, R = readS t := ⟨_, rfl⟩
  have HR := Lib.hid hR
  rw [← hR]
  clear hR
  unfold ParsePost
  by_cases h4 : 4000 < t.size
  · have t1 : decide ((4000 : Int) < (t.size : Int)) = true := decide_eq_true (by omega)
    have HV := Lib.hid (HR.out.trans (readS_long h4))
    clear h4 hs
    go_enter Tryz.func21, Tryz.ntmps21
    go_wp2_with fail
    refine bodyPost_ret (v := .tuple #[.agg nil4, .int .i64 0, .int .i64 3]) (results_blk_tmp2 rfl rfl KX.out Tryz.underlying38 rfl (by kernel_rfl) rfl rfl) rfl ⟨_, _, _, _, by rw [HV.out], by rw [HV.out]; exact setW_none _, BX.out⟩
  · have t1 : decide ((4000 : Int) < (t.size : Int)) = false := decide_eq_false (by omega)
    obtain ⟨ls, hls⟩ : ∃ ls, ls = splitS 10 t := ⟨_, rfl⟩
    have HR0 := HR.out
    have HLZ : Hid (∀ x ∈ ls, x.size ≤ 4000) := fun x hx => Nat.le_trans (splitS_size (by rw [hls] at hx; exact hx)) (by omega)
    have hln : ls.length ≤ 4001 := by rw [hls]; exact Nat.le_trans (splitS_len 10 t) (by omega)
    have hlp : 0 < ls.length := by rw [hls]; exact splitS_pos 10 t
    have HO := Lib.hid (fun (S : SetD) (h2 : readGo SetD.none ls 0 = .ok S) => HR0.trans (readS_ok (S := S) h4 (by rw [← hls]; exact h2)))
    have HE := Lib.hid (fun (n : Nat) (e : Int) (h2 : readGo SetD.none ls 0 = .error (n, e)) => HR0.trans (readS_err (n := n) (e := e) h4 (by rw [← hls]; exact h2)))
    have CS0 : Hid (∀ W, Calls Tryz.prog 55 #[.string t, .int .u8 10] W (SplitPost ls W)) := by
      intro W
      have h := rsplit_any t 10 W (by omega)
      rw [← hls] at h
      exact h
    obtain ⟨w2, hw2⟩ : ∃ w2, w2 = (w.alloc (.cells nil4 38)).alloc (.cells nil4 38) := ⟨_, rfl⟩
    have HW2 := Lib.hid hw2
    have hz1 : (w.alloc (.cells nil4 38)).heap.size = w.heap.size + 1 := World.size_alloc _ _
    have Z2 : Hid (Blk w2 w.heap.size 38 nil4) := by show Blk _ _ _ _; rw [hw2]; exact KX.out.alloc _
    have K2 : Hid (Blk w2 (w.heap.size + 1) 38 nil4) := by
      have h := Blk.new (w.alloc (.cells nil4 38)) 38 nil4
      rw [hz1] at h
      show Blk _ _ _ _
      rw [hw2]
      exact h
    have B2 : Hid (Below w.heap.size w w2) := by show Below _ _ _; rw [hw2]; exact BX.out.alloc BX.out.size _
    have h4i : (t.size : Int) ≤ 4000 := by omega
    clear h4 hs BX KX kx HR HR0 hw2 hls hz1
    go_enter Tryz.func21, Tryz.ntmps21
    go_wp2_with fail
    rw [← HW2.out]
    refine (CS0.out _).mono ?_
    rintro e w3 ⟨lb, lc, rfl, hll, d⟩
    have M3 : Hid (LpN w w3 nil4 lb lc ls) := ⟨Z2.out.below' d, K2.out.below' d, World.ownsRow.mono hll B2.out.size, chain0 B2.out d⟩
    clear hll d Z2 K2 B2 HW2 CS0
    have hlc : (ls.length : Int) ≤ 4001 := by omega
    go_wp2_with fail
    go_loopw [7] (fun i wr => ∃ (k : Nat) (S : SetD) (A1 A2 A3 A4 : Option Addr) (c1 c2 c3 c4 : Nat), k ≤ ls.length ∧ i = .int .i64 k ∧ Hid (readGo SetD.none ls 0 = readGo S (ls.drop k) k) ∧ Hid (LpN w wr #[.slice A1 S.ps.length c1, .slice A2 S.bs.length c2, .slice A3 S.cs.length c3, .slice A4 S.ad.length c4] lb lc ls) ∧ Hid (Rw wr w.heap.size S A1 A2 A3 A4 c1 c2 c3 c4) ∧ Hid (Sz S k) ∧ Hid (∀ p ∈ S.bs, nameOk p.name = true)) (fun i _ => ls.length - (intOf i).toNat)
    case atStart => exact ⟨0, SetD.none, none, none, none, none, 0, 0, 0, 0, by omega, rfl, rfl, M3.out, rw_none _ _, sz_none, fun p h => by cases h⟩
    case round =>
      clear M3
      obtain ⟨k, S, A1, A2, A3, A4, c1, c2, c3, c4, hk, rfl, HGO, M, HR, HSZ, HNM⟩ := hrel
      by_cases hkn : k < ls.length
      · have hd : decide ((k : Int) < (ls.length : Int)) = true := decide_eq_true (by omega)
        have hd1 : decide (k < ls.length) = true := decide_eq_true hkn
        have hk0 : (0 : Int) ≤ (k : Int) := by omega
        have hkn1 : (k : Int) < (ls.length : Int) := by omega
        obtain ⟨l, hl⟩ : ∃ l, l = ls[k] := ⟨_, rfl⟩
        have hlz : Hid (l.size ≤ 4000) := by show l.size ≤ 4000; rw [hl]; exact HLZ.out _ (List.getElem_mem hkn)
        have HLC : Hid (∀ W cs, LpN w W cs lb lc ls → W.cell? ⟨lb, k, none⟩ = some (.string l)) := by
          intro W cs h
          have h2 := h.l.cellAt k (by omega)
          rw [h2, List.getElem?_map, List.getElem?_eq_getElem hkn, hl]
          rfl
        have hgo := HGO.out.trans (readGo_drop hkn)
        rw [← hl] at hgo
        have HGO2 := Lib.hid hgo
        have hcl := HLC.out _ _ M.out
        have hlt2 : lb < wr.heap.size := (M.out.l.lt lb rfl).2
        clear hgo hl HGO
        by_cases hl0 : l.size = 0
        · have he : l.toList.isEmpty = true := tl_nil hl0
          have HGO3 := Lib.hid (HGO2.out.trans (if_pos hl0))
          clear hl0
          go_wp2_with fail
          go_roundw
          case rel => exact ⟨k + 1, S, A1, A2, A3, A4, c1, c2, c3, c4, by omega, by go_num, HGO3.out, M.out, HR.out, HSZ.out.le (Nat.le_succ k), HNM.out⟩
          case measure => simp [intOf]; omega
        · have he : l.toList.isEmpty = false := tl_ne (by omega)
          have HGO3 := Lib.hid (HGO2.out.trans (if_neg hl0))
          obtain ⟨ws, hws⟩ : ∃ ws, ws = splitS 32 l := ⟨_, rfl⟩
          have HWZ : Hid (∀ x ∈ ws, x.size ≤ 5000) := fun x hx => Nat.le_trans (splitS_size (by rw [hws] at hx; exact hx)) (Nat.le_trans hlz.out (by decide))
          have HWN : Hid (0 < ws.length) := by show 0 < ws.length; rw [hws]; exact splitS_pos 32 l
          have HWL : Hid (ws.length ≤ 4001) := by show ws.length ≤ 4001; rw [hws]; exact Nat.le_trans (splitS_len 32 l) (Nat.succ_le_succ hlz.out)
          rw [← hws] at HGO3
          have CS : Hid (∀ W, Calls Tryz.prog 55 #[.string l, .int .u8 32] W (SplitPost ws W)) := by
            intro W
            have h := rsplit_any l 32 W (Nat.le_trans hlz.out (by decide))
            rw [← hws] at h
            exact h
          have CL := Lib.hid (fun (W : World) (wb b c : Nat) (hr : Rw W w.heap.size S A1 A2 A3 A4 c1 c2 c3 c4) (hw : W.ownsRow wb 9 1 (.slice (some ⟨b, 0, none⟩) ws.length c) ws.length (ws.map Value.string)) (hb : w.heap.size ≤ W.heap.size) => rline_any S ws w.heap.size wb b c A1 A2 A3 A4 c1 c2 c3 c4 W hr hw hb HWN.out HWZ.out ⟨by have := HSZ.out.p; omega, by have := HSZ.out.b; omega, by have := HSZ.out.c; omega, by have := HSZ.out.a; omega⟩ HNM.out (Nat.le_trans HWL.out (by decide)))
          clear hl0 HGO2 hws
          go_wp2_with fail
          have HS : Hid (∀ W, LpN w W #[.slice A1 S.ps.length c1, .slice A2 S.bs.length c2, .slice A3 S.cs.length c3, .slice A4 S.ad.length c4] lb lc ls → (W.cell? ⟨w.heap.size + 1, 0, none⟩ = some (.slice A1 S.ps.length c1) ∧ W.cell? ⟨w.heap.size + 1, 1, none⟩ = some (.slice A2 S.bs.length c2) ∧ W.cell? ⟨w.heap.size + 1, 2, none⟩ = some (.slice A3 S.cs.length c3) ∧ W.cell? ⟨w.heap.size + 1, 3, none⟩ = some (.slice A4 S.ad.length c4)) ∧ W.cell? ⟨lb, k, none⟩ = some (.string l)) := fun W h => ⟨⟨h.k.cell 0, h.k.cell 1, h.k.cell 2, h.k.cell 3⟩, HLC.out _ _ h⟩
          replace M := Lib.hid (M.out.keep ((Below.refl _ _).drew))
          replace HR := Lib.hid (HR.out.keep ((Below.refl _ _).drew))
          clear hcl hlt2
          refine wp_region_held_drew (S := fun W => (W.cell? ⟨w.heap.size + 1, 0, none⟩ = some (.slice A1 S.ps.length c1) ∧ W.cell? ⟨w.heap.size + 1, 1, none⟩ = some (.slice A2 S.bs.length c2) ∧ W.cell? ⟨w.heap.size + 1, 2, none⟩ = some (.slice A3 S.cs.length c3) ∧ W.cell? ⟨w.heap.size + 1, 3, none⟩ = some (.slice A4 S.ad.length c4)) ∧ W.cell? ⟨lb, k, none⟩ = some (.string l)) (by kernel_rfl) ?_ (fun hHeld => ?_)
          · exact HS.out _ M.out
          generalize wr.drew = W0 at *
          refine wpAnyH_take (i := 0) (v := ?v0_7001) rfl (by kernel_rfl) (by kernel_rfl) (by kernel_rfl) (fun _ _ _ h => h) (Or.inl ⟨by rfl, ?h0_7001⟩) (by assumption) ?r0_7001
          case h0_7001 => intro w hSw; (try dsimp only at hSw); go_simp; try with_reducible rfl
          try simp only [Act.put, List.setIfInBounds_toArray, List.set_cons_zero, List.set_cons_succ]
          refine wpAnyH_take (i := 1) (v := ?v1_7002) rfl (by kernel_rfl) (by kernel_rfl) (by kernel_rfl) (fun _ _ _ h => h) (Or.inl ⟨by rfl, ?h1_7002⟩) (by assumption) ?r1_7002
          case h1_7002 => intro w hSw; (try dsimp only at hSw); go_simp; try with_reducible rfl
          try simp only [Act.put, List.setIfInBounds_toArray, List.set_cons_zero, List.set_cons_succ]
          refine wpAnyH_take (i := 2) (v := ?v2_7003) rfl (by kernel_rfl) (by kernel_rfl) (by kernel_rfl) (fun _ _ _ h => h) (Or.inl ⟨by rfl, ?h2_7003⟩) (by assumption) ?r2_7003
          case h2_7003 => intro w hSw; (try dsimp only at hSw); go_simp; try with_reducible rfl
          try simp only [Act.put, List.setIfInBounds_toArray, List.set_cons_zero, List.set_cons_succ]
          refine wpAnyH_take (i := 3) (v := ?v3_7004) rfl (by kernel_rfl) (by kernel_rfl) (by kernel_rfl) (fun _ _ _ h => h) (Or.inl ⟨by rfl, ?h3_7004⟩) (by assumption) ?r3_7004
          case h3_7004 => intro w hSw; (try dsimp only at hSw); go_simp; try with_reducible rfl
          try simp only [Act.put, List.setIfInBounds_toArray, List.set_cons_zero, List.set_cons_succ]
          refine wpAnyH_take (i := 4) (v := ?v4_7005) rfl (by kernel_rfl) (by kernel_rfl) (by kernel_rfl) (fun _ _ _ h => h) (Or.inl ⟨by rfl, ?h4_7005⟩) (by assumption) ?r4_7005
          case h4_7005 => intro w hSw; (try dsimp only at hSw); go_simp; try with_reducible rfl
          try simp only [Act.put, List.setIfInBounds_toArray, List.set_cons_zero, List.set_cons_succ]
          refine wpAnyH_ready (rs := [5, 10]) (by kernel_rfl) (by simp) ?_
          refine AllReadyH.cons (o := ?o5_7006) ?ho5_7006 (fun KK hKK => ?st5_7006) ?mo5_7006
          case ho5_7006 => (simp only [List.getElem?_toArray, List.getElem?_cons_succ, List.getElem?_cons_zero]; rfl)
          case st5_7006 =>
            first | go_at_call 55 | (rw [if_pos (by rfl)]; go_at_call 55) | (go_simp; go_at_call 55)
            with_reducible refine (CS.out _).mono ?_
            rintro e WA ⟨gw, cw, rfl, hww, dd⟩
            have HWW := Lib.hid hww
            replace M := Lib.hid (M.out.keep dd)
            replace HR := Lib.hid (HR.out.keep dd)
            clear dd hww
            refine hKK.out _ _ ?_ (fun hHeld2 => ?_)
            · (try dsimp only)
              first | with_reducible exact HS.out _ M.out | with_reducible exact HS.out _ (M.out.keep (below_new _ _)) | exact HS.out _ (M.out.far KB.out hg8.out _ _ _ _) | go_keep
            clear hKK KK hHeld
            have hHeld := hHeld2
            clear hHeld2
            try simp only [Act.put, List.setIfInBounds_toArray, List.set_cons_zero, List.set_cons_succ]
            refine wpAnyH_ready (rs := [6, 10]) (by kernel_rfl) (by simp) ?_
            refine AllReadyH.cons (o := ?o6_7007) ?ho6_7007 (fun KK hKK => ?st6_7007) ?mo6_7007
            case ho6_7007 => (simp only [List.getElem?_toArray, List.getElem?_cons_succ, List.getElem?_cons_zero]; rfl)
            case st6_7007 =>
              first | go_at_call 56 | (rw [if_pos (by rfl)]; go_at_call 56) | (go_simp; go_at_call 56)
              with_reducible refine (CL.out _ _ _ _ HR.out HWW.out M.out.bel.size).mono ?_
              rintro e WB ⟨B1, B2, B3, B4, n1, n2, n3, n4, d1, d2, d3, d4, rfl, dd, kp, hs2⟩
              have HS2 := Lib.hid hs2
              replace M := Lib.hid (M.out.line dd kp)
              clear dd kp hs2 HR HWW
              refine hKK.out _ _ ?_ (fun hHeld2 => ?_)
              · (try dsimp only)
                first | with_reducible exact HS.out _ M.out | with_reducible exact HS.out _ (M.out.keep (below_new _ _)) | exact HS.out _ (M.out.far KB.out hg8.out _ _ _ _) | go_keep
              clear hKK KK hHeld
              have hHeld := hHeld2
              clear hHeld2
              try simp only [Act.put, List.setIfInBounds_toArray, List.set_cons_zero, List.set_cons_succ]
              refine wpAnyH_take (i := 7) (v := ?v7_7008) rfl (by kernel_rfl) (by kernel_rfl) (by kernel_rfl) (fun _ _ _ h => h) (Or.inl ⟨by rfl, ?h7_7008⟩) (by assumption) ?r7_7008
              case h7_7008 => intro w hSw; (try dsimp only at hSw); go_simp; try with_reducible rfl
              try simp only [Act.put, List.setIfInBounds_toArray, List.set_cons_zero, List.set_cons_succ]
              refine wpAnyH_take (i := 8) (v := ?v8_7009) rfl (by kernel_rfl) (by kernel_rfl) (by kernel_rfl) (fun _ _ _ h => h) (Or.inl ⟨by rfl, ?h8_7009⟩) (by assumption) ?r8_7009
              case h8_7009 => intro w hSw; (try dsimp only at hSw); go_simp; try with_reducible rfl
              try simp only [Act.put, List.setIfInBounds_toArray, List.set_cons_zero, List.set_cons_succ]
              refine wpAnyH_take (i := 9) (v := ?v9_7010) rfl (by kernel_rfl) (by kernel_rfl) (by kernel_rfl) (fun _ _ _ h => h) (Or.inl ⟨by rfl, ?h9_7010⟩) (by assumption) ?r9_7010
              case h9_7010 => intro w hSw; (try dsimp only at hSw); go_simp; try with_reducible rfl
              try simp only [Act.put, List.setIfInBounds_toArray, List.set_cons_zero, List.set_cons_succ]
              refine wpAnyH_ready (rs := [10]) (by kernel_rfl) (by simp) ?_
              refine AllReadyH.cons (o := ?o10_7011) ?ho10_7011 (fun KK hKK => ?st10_7011) ?mo10_7011
              case ho10_7011 => (simp only [List.getElem?_toArray, List.getElem?_cons_succ, List.getElem?_cons_zero]; rfl)
              case st10_7011 =>
                go_simp
                refine hKK.out _ _ ?_ (fun hHeld2 => ?_)
                · (try dsimp only)
                  first | with_reducible exact HS.out _ M.out | with_reducible exact HS.out _ (M.out.keep (below_new _ _)) | exact HS.out _ (M.out.far KB.out hg8.out _ _ _ _) | go_keep
                clear hKK KK hHeld
                have hHeld := hHeld2
                clear hHeld2
                try simp only [Act.put, List.setIfInBounds_toArray, List.set_cons_zero, List.set_cons_succ]
                have hg8 : Hid (w.heap.size + 1 < WB.heap.size) := M.out.k.lt
                replace M := Lib.hid (M.out.keep (below_new WB (.cells nil4 38)))
                have HS3 := Lib.hid (fun e => (HS2.out e).2.2.2.2.keep (below_new WB (.cells nil4 38)))
                have KB := Lib.hid (Blk.new WB 38 nil4)
                generalize WB.alloc _ = WC at *
                generalize WB.heap.size = g8 at *
                have kb := KB.out.c4
                have kbl := KB.out.lt
                refine wpAnyH_ready (rs := [11]) (by kernel_rfl) (by simp) ?_
                refine AllReadyH.cons (o := ?o11_7012) ?ho11_7012 (fun KK hKK => ?st11_7012) ?mo11_7012
                case ho11_7012 => (simp only [List.getElem?_toArray, List.getElem?_cons_succ, List.getElem?_cons_zero]; rfl)
                case st11_7012 =>
                  go_simp
                  refine hKK.out _ _ ?_ (fun hHeld2 => ?_)
                  · (try dsimp only)
                    first | with_reducible exact HS.out _ M.out | with_reducible exact HS.out _ (M.out.keep (below_new _ _)) | exact HS.out _ (M.out.far KB.out hg8.out _ _ _ _) | go_keep
                  clear hKK KK hHeld
                  have hHeld := hHeld2
                  clear hHeld2
                  try simp only [Act.put, List.setIfInBounds_toArray, List.set_cons_zero, List.set_cons_succ]
                  refine wpAnyH_take (i := 12) (v := ?v12_7013) rfl (by kernel_rfl) (by kernel_rfl) (by kernel_rfl) (fun _ _ _ h => h) (Or.inl ⟨by rfl, ?h12_7013⟩) (by assumption) ?r12_7013
                  case h12_7013 => intro w hSw; (try dsimp only at hSw); go_simp; try with_reducible rfl
                  try simp only [Act.put, List.setIfInBounds_toArray, List.set_cons_zero, List.set_cons_succ]
                  refine wpAnyH_done (by kernel_rfl) ?_ _
                  obtain ⟨WF, hWF⟩ : ∃ WF, WF = ((((WC.setCell ⟨g8, 0, none⟩ (.slice B1 n1 d1)).setCell ⟨g8, 1, none⟩ (.slice B2 n2 d2)).setCell ⟨g8, 2, none⟩ (.slice B3 n3 d3)).setCell ⟨g8, 3, none⟩ (.slice B4 n4 d4)) := ⟨_, rfl⟩
                  have MF : Hid (LpN w WF #[.slice A1 S.ps.length c1, .slice A2 S.bs.length c2, .slice A3 S.cs.length c3, .slice A4 S.ad.length c4] lb lc ls) := by show LpN _ _ _ _ _ _; rw [hWF]; exact M.out.far KB.out hg8.out _ _ _ _
                  have KF : Hid (Blk WF g8 38 #[.slice B1 n1 d1, .slice B2 n2 d2, .slice B3 n3 d3, .slice B4 n4 d4]) := by show Blk _ _ _ _; rw [hWF]; exact put4b KB.out
                  have RF : Hid (lineE S ws = 0 → n1 = (stepW S ws).ps.length ∧ n2 = (stepW S ws).bs.length ∧ n3 = (stepW S ws).cs.length ∧ n4 = (stepW S ws).ad.length ∧ Rw WF w.heap.size (stepW S ws) B1 B2 B3 B4 d1 d2 d3 d4) := by
                    intro e
                    have h0 := HS2.out e
                    refine ⟨h0.1, h0.2.1, h0.2.2.1, h0.2.2.2.1, ?_⟩
                    rw [hWF]
                    exact (HS3.out e).put4 KB.out _ _ _ _
                  rw [← hWF]
                  clear hWF HS2 M KB
                  clear hHeld kb kbl CL CS HS
                  by_cases hE : lineE S ws = 0
                  case neg =>
                    have t5 : (lineE S ws != 0) = true := by simpa using hE
                    have HGO4 := Lib.hid (HGO3.out.trans (if_pos hE))
                    have HV := Lib.hid (HE.out _ _ HGO4.out)
                    have zx := MF.out.z.c4
                    have zl := MF.out.z.lt
                    clear hE
                    go_wp2_with fail
                    exact bodyPost_ret (v := .tuple #[.agg nil4, .int .i64 ((k : Int) + 1), .int .i64 (lineE S ws)]) (results_blk_tmp2 rfl rfl (put4b MF.out.z) Tryz.underlying38 rfl (by kernel_rfl) rfl rfl) rfl ⟨_, _, _, _, by rw [HV.out]; rfl, by rw [HV.out]; exact setW_none _, below4b MF.out.bel (Nat.le_refl _) _ _ _ _⟩
                  have t5 : (lineE S ws != 0) = false := by rw [hE]; rfl
                  obtain ⟨f1, f2, f3, f4, hrw⟩ := RF.out hE
                  have HGO4 := Lib.hid (HGO3.out.trans (if_neg (fun h => h hE)))
                  have HS5 := Lib.hid (sz_step HSZ.out HWZ.out)
                  have HN5 := Lib.hid (step_names HNM.out hE)
                  have HRW5 := Lib.hid hrw
                  obtain ⟨S2, hS2⟩ : ∃ S2, S2 = stepW S ws := ⟨_, rfl⟩
                  rw [← hS2] at f1 f2 f3 f4 HGO4 HS5 HN5 HRW5
                  subst f1 f2 f3 f4
                  have kf := KF.out.c4
                  have kfl := KF.out.lt
                  have kk := MF.out.k.c4
                  have kkl := MF.out.k.lt
                  clear hE hrw RF hS2
                  go_wp2_with fail
                  go_roundw
                  case rel => exact ⟨k + 1, S2, B1, B2, B3, B4, d1, d2, d3, d4, by omega, by go_num, HGO4.out, MF.out.put _ _ _ _, HRW5.out.put4 MF.out.k _ _ _ _, HS5.out, HN5.out⟩
                  case measure => simp [intOf]; omega
                case mo11_7012 =>
                  exact AllReadyH.nil
              case mo10_7011 =>
                exact AllReadyH.nil
            case mo6_7007 =>
              refine AllReadyH.cons (o := ?o10_7014) ?ho10_7014 (fun KK hKK => ?st10_7014) ?mo10_7014
              case ho10_7014 => (simp only [List.getElem?_toArray, List.getElem?_cons_succ, List.getElem?_cons_zero]; rfl)
              case st10_7014 =>
                go_simp
                refine hKK.out _ _ ?_ (fun hHeld2 => ?_)
                · (try dsimp only)
                  first | with_reducible exact HS.out _ M.out | with_reducible exact HS.out _ (M.out.keep (below_new _ _)) | exact HS.out _ (M.out.far KB.out hg8.out _ _ _ _) | go_keep
                clear hKK KK hHeld
                have hHeld := hHeld2
                clear hHeld2
                try simp only [Act.put, List.setIfInBounds_toArray, List.set_cons_zero, List.set_cons_succ]
                have hg8 : Hid (w.heap.size + 1 < WA.heap.size) := M.out.k.lt
                replace M := Lib.hid (M.out.keep (below_new WA (.cells nil4 38)))
                replace HR := Lib.hid (HR.out.keep (below_new WA (.cells nil4 38)))
                replace HWW := Lib.hid (own_below HWW.out (below_new WA (.cells nil4 38)))
                have KB := Lib.hid (Blk.new WA 38 nil4)
                generalize WA.alloc _ = WB at *
                generalize WA.heap.size = g8 at *
                have kb := KB.out.c4
                have kbl := KB.out.lt
                refine wpAnyH_ready (rs := [6]) (by kernel_rfl) (by simp) ?_
                refine AllReadyH.cons (o := ?o6_7015) ?ho6_7015 (fun KK hKK => ?st6_7015) ?mo6_7015
                case ho6_7015 => (simp only [List.getElem?_toArray, List.getElem?_cons_succ, List.getElem?_cons_zero]; rfl)
                case st6_7015 =>
                  first | go_at_call 56 | (rw [if_pos (by rfl)]; go_at_call 56) | (go_simp; go_at_call 56)
                  with_reducible refine (CL.out _ _ _ _ HR.out HWW.out M.out.bel.size).mono ?_
                  rintro e WC ⟨B1, B2, B3, B4, n1, n2, n3, n4, d1, d2, d3, d4, rfl, dd, kp, hs2⟩
                  have HS2 := Lib.hid hs2
                  replace M := Lib.hid (M.out.line dd kp)
                  replace KB := Lib.hid (kp.t _ _ KB.out)
                  replace kb := KB.out.c4
                  replace kbl := KB.out.lt
                  clear dd kp hs2 HR HWW
                  refine hKK.out _ _ ?_ (fun hHeld2 => ?_)
                  · (try dsimp only)
                    first | with_reducible exact HS.out _ M.out | with_reducible exact HS.out _ (M.out.keep (below_new _ _)) | exact HS.out _ (M.out.far KB.out hg8.out _ _ _ _) | go_keep
                  clear hKK KK hHeld
                  have hHeld := hHeld2
                  clear hHeld2
                  try simp only [Act.put, List.setIfInBounds_toArray, List.set_cons_zero, List.set_cons_succ]
                  refine wpAnyH_take (i := 7) (v := ?v7_7016) rfl (by kernel_rfl) (by kernel_rfl) (by kernel_rfl) (fun _ _ _ h => h) (Or.inl ⟨by rfl, ?h7_7016⟩) (by assumption) ?r7_7016
                  case h7_7016 => intro w hSw; (try dsimp only at hSw); go_simp; try with_reducible rfl
                  try simp only [Act.put, List.setIfInBounds_toArray, List.set_cons_zero, List.set_cons_succ]
                  refine wpAnyH_take (i := 8) (v := ?v8_7017) rfl (by kernel_rfl) (by kernel_rfl) (by kernel_rfl) (fun _ _ _ h => h) (Or.inl ⟨by rfl, ?h8_7017⟩) (by assumption) ?r8_7017
                  case h8_7017 => intro w hSw; (try dsimp only at hSw); go_simp; try with_reducible rfl
                  try simp only [Act.put, List.setIfInBounds_toArray, List.set_cons_zero, List.set_cons_succ]
                  refine wpAnyH_take (i := 9) (v := ?v9_7018) rfl (by kernel_rfl) (by kernel_rfl) (by kernel_rfl) (fun _ _ _ h => h) (Or.inl ⟨by rfl, ?h9_7018⟩) (by assumption) ?r9_7018
                  case h9_7018 => intro w hSw; (try dsimp only at hSw); go_simp; try with_reducible rfl
                  try simp only [Act.put, List.setIfInBounds_toArray, List.set_cons_zero, List.set_cons_succ]
                  refine wpAnyH_ready (rs := [11]) (by kernel_rfl) (by simp) ?_
                  refine AllReadyH.cons (o := ?o11_7019) ?ho11_7019 (fun KK hKK => ?st11_7019) ?mo11_7019
                  case ho11_7019 => (simp only [List.getElem?_toArray, List.getElem?_cons_succ, List.getElem?_cons_zero]; rfl)
                  case st11_7019 =>
                    go_simp
                    refine hKK.out _ _ ?_ (fun hHeld2 => ?_)
                    · (try dsimp only)
                      first | with_reducible exact HS.out _ M.out | with_reducible exact HS.out _ (M.out.keep (below_new _ _)) | exact HS.out _ (M.out.far KB.out hg8.out _ _ _ _) | go_keep
                    clear hKK KK hHeld
                    have hHeld := hHeld2
                    clear hHeld2
                    try simp only [Act.put, List.setIfInBounds_toArray, List.set_cons_zero, List.set_cons_succ]
                    refine wpAnyH_take (i := 12) (v := ?v12_7020) rfl (by kernel_rfl) (by kernel_rfl) (by kernel_rfl) (fun _ _ _ h => h) (Or.inl ⟨by rfl, ?h12_7020⟩) (by assumption) ?r12_7020
                    case h12_7020 => intro w hSw; (try dsimp only at hSw); go_simp; try with_reducible rfl
                    try simp only [Act.put, List.setIfInBounds_toArray, List.set_cons_zero, List.set_cons_succ]
                    refine wpAnyH_done (by kernel_rfl) ?_ _
                    obtain ⟨WF, hWF⟩ : ∃ WF, WF = ((((WC.setCell ⟨g8, 0, none⟩ (.slice B1 n1 d1)).setCell ⟨g8, 1, none⟩ (.slice B2 n2 d2)).setCell ⟨g8, 2, none⟩ (.slice B3 n3 d3)).setCell ⟨g8, 3, none⟩ (.slice B4 n4 d4)) := ⟨_, rfl⟩
                    have MF : Hid (LpN w WF #[.slice A1 S.ps.length c1, .slice A2 S.bs.length c2, .slice A3 S.cs.length c3, .slice A4 S.ad.length c4] lb lc ls) := by show LpN _ _ _ _ _ _; rw [hWF]; exact M.out.far KB.out hg8.out _ _ _ _
                    have KF : Hid (Blk WF g8 38 #[.slice B1 n1 d1, .slice B2 n2 d2, .slice B3 n3 d3, .slice B4 n4 d4]) := by show Blk _ _ _ _; rw [hWF]; exact put4b KB.out
                    have RF : Hid (lineE S ws = 0 → n1 = (stepW S ws).ps.length ∧ n2 = (stepW S ws).bs.length ∧ n3 = (stepW S ws).cs.length ∧ n4 = (stepW S ws).ad.length ∧ Rw WF w.heap.size (stepW S ws) B1 B2 B3 B4 d1 d2 d3 d4) := by
                      intro e
                      have h0 := HS2.out e
                      refine ⟨h0.1, h0.2.1, h0.2.2.1, h0.2.2.2.1, ?_⟩
                      rw [hWF]
                      exact (HS2.out e).2.2.2.2.put4 KB.out _ _ _ _
                    rw [← hWF]
                    clear hWF HS2 M KB
                    clear hHeld kb kbl CL CS HS
                    by_cases hE : lineE S ws = 0
                    case neg =>
                      have t5 : (lineE S ws != 0) = true := by simpa using hE
                      have HGO4 := Lib.hid (HGO3.out.trans (if_pos hE))
                      have HV := Lib.hid (HE.out _ _ HGO4.out)
                      have zx := MF.out.z.c4
                      have zl := MF.out.z.lt
                      clear hE
                      go_wp2_with fail
                      exact bodyPost_ret (v := .tuple #[.agg nil4, .int .i64 ((k : Int) + 1), .int .i64 (lineE S ws)]) (results_blk_tmp2 rfl rfl (put4b MF.out.z) Tryz.underlying38 rfl (by kernel_rfl) rfl rfl) rfl ⟨_, _, _, _, by rw [HV.out]; rfl, by rw [HV.out]; exact setW_none _, below4b MF.out.bel (Nat.le_refl _) _ _ _ _⟩
                    have t5 : (lineE S ws != 0) = false := by rw [hE]; rfl
                    obtain ⟨f1, f2, f3, f4, hrw⟩ := RF.out hE
                    have HGO4 := Lib.hid (HGO3.out.trans (if_neg (fun h => h hE)))
                    have HS5 := Lib.hid (sz_step HSZ.out HWZ.out)
                    have HN5 := Lib.hid (step_names HNM.out hE)
                    have HRW5 := Lib.hid hrw
                    obtain ⟨S2, hS2⟩ : ∃ S2, S2 = stepW S ws := ⟨_, rfl⟩
                    rw [← hS2] at f1 f2 f3 f4 HGO4 HS5 HN5 HRW5
                    subst f1 f2 f3 f4
                    have kf := KF.out.c4
                    have kfl := KF.out.lt
                    have kk := MF.out.k.c4
                    have kkl := MF.out.k.lt
                    clear hE hrw RF hS2
                    go_wp2_with fail
                    go_roundw
                    case rel => exact ⟨k + 1, S2, B1, B2, B3, B4, d1, d2, d3, d4, by omega, by go_num, HGO4.out, MF.out.put _ _ _ _, HRW5.out.put4 MF.out.k _ _ _ _, HS5.out, HN5.out⟩
                    case measure => simp [intOf]; omega
                  case mo11_7019 =>
                    exact AllReadyH.nil
                case mo6_7015 =>
                  exact AllReadyH.nil
              case mo10_7014 =>
                exact AllReadyH.nil
          case mo5_7006 =>
            refine AllReadyH.cons (o := ?o10_7021) ?ho10_7021 (fun KK hKK => ?st10_7021) ?mo10_7021
            case ho10_7021 => (simp only [List.getElem?_toArray, List.getElem?_cons_succ, List.getElem?_cons_zero]; rfl)
            case st10_7021 =>
              go_simp
              refine hKK.out _ _ ?_ (fun hHeld2 => ?_)
              · (try dsimp only)
                first | with_reducible exact HS.out _ M.out | with_reducible exact HS.out _ (M.out.keep (below_new _ _)) | exact HS.out _ (M.out.far KB.out hg8.out _ _ _ _) | go_keep
              clear hKK KK hHeld
              have hHeld := hHeld2
              clear hHeld2
              try simp only [Act.put, List.setIfInBounds_toArray, List.set_cons_zero, List.set_cons_succ]
              have hg8 : Hid (w.heap.size + 1 < W0.heap.size) := M.out.k.lt
              replace M := Lib.hid (M.out.keep (below_new W0 (.cells nil4 38)))
              replace HR := Lib.hid (HR.out.keep (below_new W0 (.cells nil4 38)))
              have KB := Lib.hid (Blk.new W0 38 nil4)
              generalize W0.alloc _ = WA at *
              generalize W0.heap.size = g8 at *
              have kb := KB.out.c4
              have kbl := KB.out.lt
              refine wpAnyH_ready (rs := [5]) (by kernel_rfl) (by simp) ?_
              refine AllReadyH.cons (o := ?o5_7022) ?ho5_7022 (fun KK hKK => ?st5_7022) ?mo5_7022
              case ho5_7022 => (simp only [List.getElem?_toArray, List.getElem?_cons_succ, List.getElem?_cons_zero]; rfl)
              case st5_7022 =>
                first | go_at_call 55 | (rw [if_pos (by rfl)]; go_at_call 55) | (go_simp; go_at_call 55)
                with_reducible refine (CS.out _).mono ?_
                rintro e WB ⟨gw, cw, rfl, hww, dd⟩
                have HWW := Lib.hid hww
                replace M := Lib.hid (M.out.keep dd)
                replace HR := Lib.hid (HR.out.keep dd)
                replace KB := Lib.hid (KB.out.below' dd)
                replace kb := KB.out.c4
                replace kbl := KB.out.lt
                clear dd hww
                refine hKK.out _ _ ?_ (fun hHeld2 => ?_)
                · (try dsimp only)
                  first | with_reducible exact HS.out _ M.out | with_reducible exact HS.out _ (M.out.keep (below_new _ _)) | exact HS.out _ (M.out.far KB.out hg8.out _ _ _ _) | go_keep
                clear hKK KK hHeld
                have hHeld := hHeld2
                clear hHeld2
                try simp only [Act.put, List.setIfInBounds_toArray, List.set_cons_zero, List.set_cons_succ]
                refine wpAnyH_ready (rs := [6]) (by kernel_rfl) (by simp) ?_
                refine AllReadyH.cons (o := ?o6_7023) ?ho6_7023 (fun KK hKK => ?st6_7023) ?mo6_7023
                case ho6_7023 => (simp only [List.getElem?_toArray, List.getElem?_cons_succ, List.getElem?_cons_zero]; rfl)
                case st6_7023 =>
                  first | go_at_call 56 | (rw [if_pos (by rfl)]; go_at_call 56) | (go_simp; go_at_call 56)
                  with_reducible refine (CL.out _ _ _ _ HR.out HWW.out M.out.bel.size).mono ?_
                  rintro e WC ⟨B1, B2, B3, B4, n1, n2, n3, n4, d1, d2, d3, d4, rfl, dd, kp, hs2⟩
                  have HS2 := Lib.hid hs2
                  replace M := Lib.hid (M.out.line dd kp)
                  replace KB := Lib.hid (kp.t _ _ KB.out)
                  replace kb := KB.out.c4
                  replace kbl := KB.out.lt
                  clear dd kp hs2 HR HWW
                  refine hKK.out _ _ ?_ (fun hHeld2 => ?_)
                  · (try dsimp only)
                    first | with_reducible exact HS.out _ M.out | with_reducible exact HS.out _ (M.out.keep (below_new _ _)) | exact HS.out _ (M.out.far KB.out hg8.out _ _ _ _) | go_keep
                  clear hKK KK hHeld
                  have hHeld := hHeld2
                  clear hHeld2
                  try simp only [Act.put, List.setIfInBounds_toArray, List.set_cons_zero, List.set_cons_succ]
                  refine wpAnyH_take (i := 7) (v := ?v7_7024) rfl (by kernel_rfl) (by kernel_rfl) (by kernel_rfl) (fun _ _ _ h => h) (Or.inl ⟨by rfl, ?h7_7024⟩) (by assumption) ?r7_7024
                  case h7_7024 => intro w hSw; (try dsimp only at hSw); go_simp; try with_reducible rfl
                  try simp only [Act.put, List.setIfInBounds_toArray, List.set_cons_zero, List.set_cons_succ]
                  refine wpAnyH_take (i := 8) (v := ?v8_7025) rfl (by kernel_rfl) (by kernel_rfl) (by kernel_rfl) (fun _ _ _ h => h) (Or.inl ⟨by rfl, ?h8_7025⟩) (by assumption) ?r8_7025
                  case h8_7025 => intro w hSw; (try dsimp only at hSw); go_simp; try with_reducible rfl
                  try simp only [Act.put, List.setIfInBounds_toArray, List.set_cons_zero, List.set_cons_succ]
                  refine wpAnyH_take (i := 9) (v := ?v9_7026) rfl (by kernel_rfl) (by kernel_rfl) (by kernel_rfl) (fun _ _ _ h => h) (Or.inl ⟨by rfl, ?h9_7026⟩) (by assumption) ?r9_7026
                  case h9_7026 => intro w hSw; (try dsimp only at hSw); go_simp; try with_reducible rfl
                  try simp only [Act.put, List.setIfInBounds_toArray, List.set_cons_zero, List.set_cons_succ]
                  refine wpAnyH_ready (rs := [11]) (by kernel_rfl) (by simp) ?_
                  refine AllReadyH.cons (o := ?o11_7027) ?ho11_7027 (fun KK hKK => ?st11_7027) ?mo11_7027
                  case ho11_7027 => (simp only [List.getElem?_toArray, List.getElem?_cons_succ, List.getElem?_cons_zero]; rfl)
                  case st11_7027 =>
                    go_simp
                    refine hKK.out _ _ ?_ (fun hHeld2 => ?_)
                    · (try dsimp only)
                      first | with_reducible exact HS.out _ M.out | with_reducible exact HS.out _ (M.out.keep (below_new _ _)) | exact HS.out _ (M.out.far KB.out hg8.out _ _ _ _) | go_keep
                    clear hKK KK hHeld
                    have hHeld := hHeld2
                    clear hHeld2
                    try simp only [Act.put, List.setIfInBounds_toArray, List.set_cons_zero, List.set_cons_succ]
                    refine wpAnyH_take (i := 12) (v := ?v12_7028) rfl (by kernel_rfl) (by kernel_rfl) (by kernel_rfl) (fun _ _ _ h => h) (Or.inl ⟨by rfl, ?h12_7028⟩) (by assumption) ?r12_7028
                    case h12_7028 => intro w hSw; (try dsimp only at hSw); go_simp; try with_reducible rfl
                    try simp only [Act.put, List.setIfInBounds_toArray, List.set_cons_zero, List.set_cons_succ]
                    refine wpAnyH_done (by kernel_rfl) ?_ _
                    obtain ⟨WF, hWF⟩ : ∃ WF, WF = ((((WC.setCell ⟨g8, 0, none⟩ (.slice B1 n1 d1)).setCell ⟨g8, 1, none⟩ (.slice B2 n2 d2)).setCell ⟨g8, 2, none⟩ (.slice B3 n3 d3)).setCell ⟨g8, 3, none⟩ (.slice B4 n4 d4)) := ⟨_, rfl⟩
                    have MF : Hid (LpN w WF #[.slice A1 S.ps.length c1, .slice A2 S.bs.length c2, .slice A3 S.cs.length c3, .slice A4 S.ad.length c4] lb lc ls) := by show LpN _ _ _ _ _ _; rw [hWF]; exact M.out.far KB.out hg8.out _ _ _ _
                    have KF : Hid (Blk WF g8 38 #[.slice B1 n1 d1, .slice B2 n2 d2, .slice B3 n3 d3, .slice B4 n4 d4]) := by show Blk _ _ _ _; rw [hWF]; exact put4b KB.out
                    have RF : Hid (lineE S ws = 0 → n1 = (stepW S ws).ps.length ∧ n2 = (stepW S ws).bs.length ∧ n3 = (stepW S ws).cs.length ∧ n4 = (stepW S ws).ad.length ∧ Rw WF w.heap.size (stepW S ws) B1 B2 B3 B4 d1 d2 d3 d4) := by
                      intro e
                      have h0 := HS2.out e
                      refine ⟨h0.1, h0.2.1, h0.2.2.1, h0.2.2.2.1, ?_⟩
                      rw [hWF]
                      exact (HS2.out e).2.2.2.2.put4 KB.out _ _ _ _
                    rw [← hWF]
                    clear hWF HS2 M KB
                    clear hHeld kb kbl CL CS HS
                    by_cases hE : lineE S ws = 0
                    case neg =>
                      have t5 : (lineE S ws != 0) = true := by simpa using hE
                      have HGO4 := Lib.hid (HGO3.out.trans (if_pos hE))
                      have HV := Lib.hid (HE.out _ _ HGO4.out)
                      have zx := MF.out.z.c4
                      have zl := MF.out.z.lt
                      clear hE
                      go_wp2_with fail
                      exact bodyPost_ret (v := .tuple #[.agg nil4, .int .i64 ((k : Int) + 1), .int .i64 (lineE S ws)]) (results_blk_tmp2 rfl rfl (put4b MF.out.z) Tryz.underlying38 rfl (by kernel_rfl) rfl rfl) rfl ⟨_, _, _, _, by rw [HV.out]; rfl, by rw [HV.out]; exact setW_none _, below4b MF.out.bel (Nat.le_refl _) _ _ _ _⟩
                    have t5 : (lineE S ws != 0) = false := by rw [hE]; rfl
                    obtain ⟨f1, f2, f3, f4, hrw⟩ := RF.out hE
                    have HGO4 := Lib.hid (HGO3.out.trans (if_neg (fun h => h hE)))
                    have HS5 := Lib.hid (sz_step HSZ.out HWZ.out)
                    have HN5 := Lib.hid (step_names HNM.out hE)
                    have HRW5 := Lib.hid hrw
                    obtain ⟨S2, hS2⟩ : ∃ S2, S2 = stepW S ws := ⟨_, rfl⟩
                    rw [← hS2] at f1 f2 f3 f4 HGO4 HS5 HN5 HRW5
                    subst f1 f2 f3 f4
                    have kf := KF.out.c4
                    have kfl := KF.out.lt
                    have kk := MF.out.k.c4
                    have kkl := MF.out.k.lt
                    clear hE hrw RF hS2
                    go_wp2_with fail
                    go_roundw
                    case rel => exact ⟨k + 1, S2, B1, B2, B3, B4, d1, d2, d3, d4, by omega, by go_num, HGO4.out, MF.out.put _ _ _ _, HRW5.out.put4 MF.out.k _ _ _ _, HS5.out, HN5.out⟩
                    case measure => simp [intOf]; omega
                  case mo11_7027 =>
                    exact AllReadyH.nil
                case mo6_7023 =>
                  exact AllReadyH.nil
              case mo5_7022 =>
                exact AllReadyH.nil
            case mo10_7021 =>
              exact AllReadyH.nil
      · obtain rfl : k = ls.length := by omega
        have hd : decide (((ls.length : Nat) : Int) < (ls.length : Int)) = false := decide_eq_false (by omega)
        have hgo := HGO.out
        rw [List.drop_length] at hgo
        have HV := Lib.hid (HO.out S (by rw [hgo]; rfl))
        have HSW := Lib.hid (fun W (h : Rw W w.heap.size S A1 A2 A3 A4 c1 c2 c3 c4) => h.setW ⟨by have := HSZ.out.p; omega, by have := HSZ.out.b; omega, by have := HSZ.out.c; omega, by have := HSZ.out.a; omega⟩ (fun p h => Nat.le_trans (HSZ.out.np p h) (by decide)) (fun p h => Nat.le_trans (HSZ.out.nb p h) (by decide)))
        have CC := Lib.hid (rcheck_any S _ _ _ _ wr (HSW.out _ HR.out))
        have gk := M.out.k.c4
        have gl := M.out.k.lt
        clear hgo
        go_wp2_with fail
        refine CC.out.mono ?_
        rintro e w5 ⟨rfl, d1⟩
        replace M := Lib.hid (M.out.keep d1)
        replace HR := Lib.hid (HR.out.keep d1)
        clear d1 CC gk gl
        have gk := M.out.k.c4
        have gl := M.out.k.lt
        have kx := M.out.z.c4
        have kl := M.out.z.lt
        by_cases hE : S.err = 0
        · have t5 : (S.err != 0) = false := by rw [hE]; rfl
          have HV2 := Lib.hid (HV.out.trans (if_neg (fun h => h hE)))
          clear hE
          go_wp2_with fail
          exact bodyPost_ret (v := .tuple #[.agg #[.slice A1 S.ps.length c1, .slice A2 S.bs.length c2, .slice A3 S.cs.length c3, .slice A4 S.ad.length c4], .int .i64 0, .int .i64 0]) (results_blk_tmp2 rfl rfl (put4b M.out.z) Tryz.underlying38 rfl (by kernel_rfl) rfl rfl) rfl ⟨_, _, _, _, by rw [HV2.out], by rw [HV2.out]; exact HSW.out _ (HR.out.put4 M.out.z _ _ _ _), below4b M.out.bel (Nat.le_refl _) _ _ _ _⟩
        · have t5 : (S.err != 0) = true := by simpa using hE
          have HV2 := Lib.hid (HV.out.trans (if_pos hE))
          clear hE
          go_wp2_with fail
          exact bodyPost_ret (v := .tuple #[.agg nil4, .int .i64 (0), .int .i64 (S.err)]) (results_blk_tmp2 rfl rfl (put4b M.out.z) Tryz.underlying38 rfl (by kernel_rfl) rfl rfl) rfl ⟨_, _, _, _, by rw [HV2.out], by rw [HV2.out]; exact setW_none _, below4b M.out.bel (Nat.le_refl _) _ _ _ _⟩

end Go.Proofs.YtjjlhihocllgjaaGreatDoor.Se
