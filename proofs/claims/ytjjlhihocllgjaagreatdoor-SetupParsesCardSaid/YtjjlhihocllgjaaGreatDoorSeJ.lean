/- The reference's Split. Printed by gen_seJ.py. -/
import Derived.Test.YtjjlhihocllgjaaGreatDoorSe7
namespace Go.Proofs.YtjjlhihocllgjaaGreatDoor.Se
open Go.ChangeShapes Go.WideShapes Go.ChangeAt Go.RowKit Gn Cat Lex Ros
set_option linter.unusedVariables false
set_option linter.unusedSimpArgs false
/-- the parts of what is behind byte number k -/
def partsS (c : UInt8) (s : ByteArray) (k : Nat) : List ByteArray := (splitL c (s.data.toList.drop k)).map fun l => ⟨l.toArray⟩
def glue (pre : List ByteArray) (last : ByteArray) : List ByteArray → List ByteArray
  | [] => pre ++ [last]
  | h :: t => pre ++ (last ++ h) :: t
theorem ba_nil (a : ByteArray) : a ++ ⟨#[]⟩ = a := by apply ByteArray.ext; simp [ByteArray.data_append]
theorem ba_nil' (a : ByteArray) : ⟨#[]⟩ ++ a = a := by apply ByteArray.ext; simp [ByteArray.data_append]
theorem ba_assoc (a b c : ByteArray) : a ++ (b ++ c) = a ++ b ++ c := by apply ByteArray.ext; simp [ByteArray.data_append]
theorem parts_ne (c : UInt8) (s : ByteArray) (k : Nat) : ∃ h t, partsS c s k = h :: t := by
  unfold partsS
  cases h : splitL c (s.data.toList.drop k) with
  | nil => exact absurd h (splitL_ne c _)
  | cons y ys => exact ⟨_, _, rfl⟩
theorem drop_byte (s : ByteArray) (k : Nat) (hk : k < s.size) : s.data.toList.drop k = s[k] :: s.data.toList.drop (k + 1) := by
  have h2 : k < s.data.toList.length := hk
  rw [List.drop_eq_getElem_cons h2]
  rfl
theorem parts_eq {c : UInt8} {s : ByteArray} {k : Nat} (hk : k < s.size) (h : s[k] = c) : partsS c s k = ⟨#[]⟩ :: partsS c s (k + 1) := by
  unfold partsS
  rw [drop_byte s k hk, splitL, if_pos h]
  rfl
theorem parts_go {c : UInt8} {s : ByteArray} {k : Nat} (hk : k < s.size) (h : s[k] ≠ c) {h1 : ByteArray} {t : List ByteArray} (e : partsS c s (k + 1) = h1 :: t) : partsS c s k = (⟨#[s[k]]⟩ ++ h1) :: t := by
  unfold partsS at e ⊢
  rw [drop_byte s k hk, splitL, if_neg h]
  cases h2 : splitL c (s.data.toList.drop (k + 1)) with
  | nil => exact absurd h2 (splitL_ne c _)
  | cons y ys =>
    rw [h2] at e
    simp only [List.map_cons, List.cons.injEq] at e
    obtain ⟨rfl, rfl⟩ := e
    simp only [consH, List.map_cons, List.cons.injEq, and_true]
    apply ByteArray.ext
    simp [ByteArray.data_append]
theorem parts_end (c : UInt8) (s : ByteArray) : partsS c s s.size = [⟨#[]⟩] := by
  unfold partsS
  rw [List.drop_eq_nil_of_le (show s.data.toList.length ≤ s.size from Nat.le_refl _)]
  rfl
theorem glue_eq {c : UInt8} {s : ByteArray} {k : Nat} {pre : List ByteArray} {last : ByteArray} (hk : k < s.size) (h : s[k] = c) : glue pre last (partsS c s k) = glue (pre ++ [last]) ⟨#[]⟩ (partsS c s (k + 1)) := by
  obtain ⟨h1, t, e⟩ := parts_ne c s (k + 1)
  rw [parts_eq hk h, e]
  simp [glue, ba_nil, ba_nil']
theorem glue_ne {c : UInt8} {s : ByteArray} {k : Nat} {pre : List ByteArray} {last : ByteArray} (hk : k < s.size) (h : s[k] ≠ c) : glue pre last (partsS c s k) = glue pre (last ++ ⟨#[s[k]]⟩) (partsS c s (k + 1)) := by
  obtain ⟨h1, t, e⟩ := parts_ne c s (k + 1)
  rw [parts_go hk h e, e]
  simp [glue, ba_assoc]
theorem glue_start (c : UInt8) (s : ByteArray) : glue [] ⟨#[]⟩ (partsS c s 0) = splitS c s := by
  obtain ⟨h1, t, e⟩ := parts_ne c s 0
  have e2 : partsS c s 0 = splitS c s := rfl
  rw [← e2, e]
  simp [glue, ba_nil']
theorem glue_end {c : UInt8} {s : ByteArray} {pre : List ByteArray} {last : ByteArray} : glue pre last (partsS c s s.size) = pre ++ [last] := by
  rw [parts_end]
  simp [glue, ba_nil]
theorem cut_one {s : ByteArray} {k : Nat} (hk : k < s.size) : s.extract k (k + 1) = ⟨#[s[k]]⟩ := by
  apply ByteArray.ext
  apply Array.ext'
  have h2 : k < s.data.toList.length := hk
  rw [ByteArray.data_extract, Array.toList_extract]
  simp only [List.extract, Nat.add_sub_cancel_left]
  rw [List.drop_eq_getElem_cons h2]
  rfl
theorem str_info : (Tryz.prog.info? 9).map (fun i => (i.zero, i.size, i.bytes)) = some (some (.string ⟨#[]⟩), 1, 16) := by kernel_rfl
abbrev SplitPost (l : List ByteArray) (w : World) : Ending → World → Prop := fun e w' => ∃ g c, e = .returned (.slice (some ⟨g, 0, none⟩) l.length c) ∧ w'.ownsRow w.heap.size 9 1 (.slice (some ⟨g, 0, none⟩) l.length c) l.length (l.map Value.string) ∧ Below w.heap.size w w'
theorem own_g {w : World} {base e s n : Nat} {A : Option Addr} {c : Nat} {xs : List Value} (h : w.ownsRow base e s (.slice A (n + 1) c) (n + 1) xs) : ∃ g, A = some ⟨g, 0, none⟩ := by
  rcases h.2 with ⟨e1, e2⟩ | ⟨g, cap, cur, e1, _⟩
  · omega
  · injection e1 with e2
    exact ⟨g, e2⟩
set_option maxHeartbeats 2000000 in
set_option maxRecDepth 100000 in
theorem rsplit_any (s : ByteArray) (c : UInt8) (w : World) (hs : s.size ≤ 5000) : Calls Tryz.prog 55 #[.string s, .int .u8 (c.toNat : Int)] w (SplitPost (splitS c s) w) := by
  obtain ⟨j0, hj0, hy0, hy1, hy2⟩ := info_parts str_info
  have hsz : (s.size : Int) ≤ 5000 := by omega
  obtain ⟨R, hR⟩ : ∃ R, R = splitS c s := ⟨_, rfl⟩
  have HRR := Lib.hid hR
  rw [← hR]
  clear hR
  have O0 := Lib.hid (World.ownsRow_lit (e := 9) (size := 1) w #[.string ⟨#[]⟩] 1 (Nat.le_refl w.heap.size) (by decide) rfl)
  have B0 := Lib.hid (below_new w (.cells #[.string ⟨#[]⟩] 9))
  go_enter Tryz.func55, Tryz.ntmps55
  go_wp2_with fail
  go_loopw [6, 5] (fun iv ov wr => ∃ (k m g c2 : Nat) (pre : List ByteArray) (last : ByteArray), k ≤ s.size ∧ m ≤ k ∧ iv = .int .i64 (k : Int) ∧ ov = .slice (some ⟨g, 0, none⟩) (m + 1) c2 ∧ Hid (pre.length = m) ∧ Hid (last.size ≤ k) ∧ Hid (R = glue pre last (partsS c s k)) ∧ Hid (wr.ownsRow w.heap.size 9 1 (.slice (some ⟨g, 0, none⟩) (m + 1) c2) (m + 1) ((pre ++ [last]).map Value.string)) ∧ Hid (Below w.heap.size w wr)) (fun iv _ _ => s.size - (intOf iv).toNat)
  case atStart => exact ⟨0, 0, w.heap.size, 1, [], ⟨#[]⟩, Nat.zero_le _, Nat.le_refl _, rfl, rfl, rfl, Nat.le_refl _, HRR.out.trans (glue_start c s).symm, O0.out, B0.out⟩
  case round =>
    clear O0 B0
    obtain ⟨k, m, g, c2, pre, last, hk, hm, rfl, rfl, HP, HLA, HG, HO, HB⟩ := hrel
    have hk0 : (0 : Int) ≤ (k : Int) := by omega
    by_cases hkn : k < s.size
    · have hd1 : decide (k < s.size) = true := decide_eq_true hkn
      have hd2 : decide ((k : Int) < (s.size : Int)) = true := decide_eq_true (by omega)
      have hkn1 : (k : Int) < (s.size : Int) := by omega
      by_cases hx : s[k] = c
      · have t1 : ((s[k].toNat : Int) == (c.toNat : Int)) = true := by rw [hx]; simp
        have HG2 := Lib.hid (HG.out.trans (glue_eq hkn hx))
        clear hx
        have hk5 : Hid (k ≤ 5000) := by show k ≤ 5000; omega
        have hm5 : Hid (m ≤ 5000) := by show m ≤ 5000; omega
        go_wp2_with (at_builtin; refine wpList_append_own _ rfl _ _ 89 rfl w.heap.size 9 j0 _ 1 16 Tryz.underlying89 hj0 hy0 hy1 hy2 rfl (by decide) (.slice (some ⟨g, 0, none⟩) (m + 1) c2) (m + 1) _ rfl (HO.out.alloc _) ⟨wr.heap.size, 0, none⟩ 1 1 [.string ⟨#[]⟩] rfl rfl (cells_new wr _ _) (by intro u hu; simp at hu; subst hu; rfl) (by have := hm5.out; unfold maxLen; omega) (by have := hm5.out; omega) (by have := HB.out.size; simp; omega) ?_)
        intro v' w4 hown hgr _
        obtain ⟨A5, c5, rfl⟩ := Gn.own_form hown
        obtain ⟨g5, rfl⟩ := own_g hown
        have O5 : Hid (w4.ownsRow w.heap.size 9 1 (.slice (some ⟨g5, 0, none⟩) (m + 1 + 1) c5) (m + 1 + 1) (((pre ++ [last]) ++ [(⟨#[]⟩ : ByteArray)]).map Value.string)) := by show World.ownsRow _ _ _ _ _ _ _; rw [List.map_append]; simpa using hown
        have B5 : Hid (Below w.heap.size w w4) := (HB.out.alloc HB.out.size _).grown hgr (by have := HB.out.size; simp; omega) (fun q hq => (HO.out.lt q hq).1)
        have LT0 : Hid ((⟨#[]⟩ : ByteArray).size ≤ k + 1) := Nat.zero_le _
        have HP5 : Hid ((pre ++ [last]).length = m + 1) := by show _ = _; rw [List.length_append, HP.out]; rfl
        clear hown hgr HO HB HP
        go_wp2_with fail
        go_roundw
        case rel => exact ⟨k + 1, m + 1, g5, c5, pre ++ [last], ⟨#[]⟩, hkn, by omega, by go_num, rfl, HP5.out, LT0.out, HG2.out, O5.out, B5.out⟩
        case measure => simp [intOf]; omega
      · have t1 : ((s[k].toNat : Int) == (c.toNat : Int)) = false := by
          refine beq_eq_false_iff_ne.2 (fun e => hx ?_)
          exact UInt8.toNat_inj.1 (by omega)
        have HG2 := Lib.hid (HG.out.trans (glue_ne hkn hx))
        have hcut := cut_one hkn
        have hcl : wr.cell? ⟨g, m, none⟩ = some (.string last) := by
          rw [HO.out.cellAt m (by omega), List.getElem?_map, List.getElem?_append_right (by rw [HP.out]; exact Nat.le_refl _), HP.out, Nat.sub_self]
          rfl
        have hfz := HO.out.frozenAt m
        have hgl := (HO.out.lt g rfl).2
        obtain ⟨x, hxx⟩ : ∃ x, x = s[k] := ⟨_, rfl⟩
        rw [← hxx] at hcut HG2 t1
        have hsk : s[k] = x := hxx.symm
        have had := fun W => add_small last ⟨#[x]⟩ (by show _ + 1 ≤ _; have := HLA.out; omega) W
        have hsl : ∀ W, (Instr.slice 9 (.string s) (some (.int .i64 (k : Int))) (some (.int .i64 ((k : Int) + 1))) none).run Tryz.prog W = .ok (.string ⟨#[x]⟩) W := fun W => by
          have h := run_slice_string (P := Tryz.prog) W 9 s .i64 .i64 (k : Int) ((k : Int) + 1) (by kernel_rfl) (by omega) (by omega) (by omega)
          rw [show (k : Int).toNat = k by omega, show ((k : Int) + 1).toNat = k + 1 by omega, hcut] at h
          exact h
        have hm0 : (0 : Int) ≤ (m : Int) := by omega
        have hm5 : (m : Int) ≤ 5000 := by omega
        obtain ⟨n, hn⟩ : ∃ n, n = m + 1 := ⟨_, rfl⟩
        have hs1 : (n : Int) - 1 = (m : Int) := by omega
        have hs2 : (m : Int) < (n : Int) := by omega
        have hs3 : (n : Int) ≤ 5001 := by omega
        have hs4 : m < n := by omega
        have hw1 : IntKind.i64.wrap (m : Int) = (m : Int) := IntWalk.i64_in _ (by omega)
        have hw2 : IntKind.i64.wrap ((k : Int) + 1) = (k : Int) + 1 := IntWalk.i64_in _ (by omega)
        have HN := Lib.hid hn
        rw [← hn]
        rw [← hn] at HO
        clear hn hcut
        clear hx hxx
        go_wp2_with fail
        go_region_with fail
        have e5 : ((pre ++ [last]).map Value.string).set m (.string (last ++ ⟨#[x]⟩)) = (pre ++ [last ++ ⟨#[x]⟩]).map Value.string := by
          have hpm : (pre.map Value.string).length = m := by rw [List.length_map]; exact HP.out
          rw [List.map_append, List.map_append, List.set_append, if_neg (by omega), hpm, Nat.sub_self]
          rfl
        have O5 : Hid ((wr.setCell ⟨g, m, none⟩ (.string (last ++ ⟨#[x]⟩))).ownsRow w.heap.size 9 1 (.slice (some ⟨g, 0, none⟩) (m + 1) c2) (m + 1) ((pre ++ [last ++ ⟨#[x]⟩]).map Value.string)) := by
          have h := (HO.out.stored m (.string (last ++ ⟨#[x]⟩))).1
          rw [e5, HN.out] at h
          exact h
        have B5 : Hid (Below w.heap.size w (wr.setCell ⟨g, m, none⟩ (.string (last ++ ⟨#[x]⟩))).drew) := (HB.out.setCell (p := ⟨g, m, none⟩) (HO.out.lt g rfl).1 _).drew
        have LT5 : Hid ((last ++ ⟨#[x]⟩ : ByteArray).size ≤ k + 1) := by
          show _ ≤ _
          rw [ByteArray.size_append]
          have := HLA.out
          show last.size + 1 ≤ _
          omega
        go_wp2_with fail
        go_roundw
        case rel => exact ⟨k + 1, m, g, c2, pre, last ++ (⟨#[x]⟩ : ByteArray), hkn, by omega, by go_num, by rw [HN.out], HP.out, LT5.out, HG2.out, O5.out, B5.out⟩
        case measure => simp [intOf]; omega
    · obtain rfl : k = s.size := by omega
      have hd1 : decide (s.size < s.size) = false := decide_eq_false (Nat.lt_irrefl _)
      have hd2 : decide ((s.size : Int) < (s.size : Int)) = false := decide_eq_false (Int.lt_irrefl _)
      have HV : Hid (R = pre ++ [last]) := HG.out.trans glue_end
      have hl : R.length = m + 1 := by rw [HV.out, List.length_append, HP.out]; rfl
      go_wp2_with fail
      go_ret
      exact ⟨g, c2, by rw [hl]; rfl, by rw [hl, HV.out]; exact HO.out, HB.out⟩
end Go.Proofs.YtjjlhihocllgjaaGreatDoor.Se
