/- The laws on scanners and on Join, for arguments of any size that the statements let in. -/
import Derived.Test.YtabkaaapkcadhaaLexZ
namespace Go.Proofs.Ytabkaaapkcadhaa
open Go.ChangeShapes Go.WideShapes Go.ChangeAt Go.RowKit
namespace Lex
theorem law_scans (l : List Tok) (A1 : Option Addr) (c1 : Nat) (S : List Stp) (A2 : Option Addr) (c2 : Nat) (w : World) (hl : l.length ≤ maxLen) (hS : S.length ≤ maxLen)
    (h1 : Sl w 4 (.slice A1 l.length c1) l.length (cellsOf l)) (h2 : 0 < S.length → ∃ b o, A2 = some ⟨b, o, none⟩ ∧ b < w.heap.size ∧ StepRow w b o S) :
    Calls Try.prog 7 #[.slice A1 l.length c1, .slice A2 S.length c2] w fun e w' => e = .returned (.bool true) ∧ Below w.heap.size w w' := by
  by_cases hb : l.length ≤ 200 ∧ S.length ≤ 200
  · exact law_scans_main l A1 c1 S A2 c2 w hb.1 hb.2 h1 h2
  · have AW := Lib.hid awake_any
    clear h1 h2
    generalize l.length = n at *
    generalize S.length = m at *
    unfold maxLen at hl hS
    by_cases hn : 200 < n
    · have d1 : decide ((200 : Int) < (n : Int)) = true := by simp; omega
      clear hb
      go_enter Try.func7, Try.ntmps7
      go_wp2_with fail
      refine (AW.out _).mono ?_
      rintro e w1 ⟨rfl, b1⟩
      go_wp2_with fail
      go_ret
      exact ⟨rfl, b1⟩
    · have d1 : decide ((200 : Int) < (n : Int)) = false := by simp; omega
      have d2 : decide ((200 : Int) < (m : Int)) = true := by simp; omega
      clear hb
      go_enter Try.func7, Try.ntmps7
      go_wp2_with fail
      refine (AW.out _).mono ?_
      rintro e w1 ⟨rfl, b1⟩
      go_wp2_with fail
      go_ret
      exact ⟨rfl, b1⟩
set_option maxHeartbeats 1000000 in
set_option maxRecDepth 100000 in
theorem law_joins_main (l : List Tok) (A1 : Option Addr) (c1 : Nat) (w : World) (hl : l.length ≤ 200) (h1 : Sl w 4 (.slice A1 l.length c1) l.length (cellsOf l)) (hlen : (joinBytes l).length ≤ 140737488355328) :
    Calls Try.prog 5 #[.slice A1 l.length c1] w fun e w' => e = .returned (.bool true) ∧ Below w.heap.size w w' := by
  have AW := Lib.hid awake_any
  obtain ⟨j0, hj0, hy0, hy1, hy2⟩ := info_parts rtok_info
  have H1 := Lib.hid h1
  have d1 : decide ((200 : Int) < (l.length : Int)) = false := by simp; omega
  have HR : Hid (0 < l.length → ∃ b o, A1 = some ⟨b, o, none⟩ ∧ b < w.heap.size ∧ TokRow w b o l) := by
    obtain ⟨A, c, e, _, _, hr⟩ := sl_cases h1
    injection e with e1 _ _
    subst e1
    exact hr
  have CJ := Lib.hid fun x (h : Sl x 4 (.slice A1 l.length c1) l.length (cellsOf l)) => join_any l _ x (by omega) h hlen
  have CR := Lib.hid fun v x (h : Sl x 4 v l.length (cellsOf l)) => refJoin_any l v x (by omega) h hlen
  clear h1 hlen
  generalize joinBytes l = res at *
  go_enter Try.func5, Try.ntmps5
  go_wp2_with fail
  go_loopw [3, 12] (fun v i wr => ∃ k : Nat, k ≤ l.length ∧ i = .int .i64 (k : Int) ∧ Hid (wr.ownsRow w.heap.size 34 4 v k (cellsOf (l.take k))) ∧ Hid (Below w.heap.size w wr)) (fun _ i _ => l.length - (intOf i).toNat)
  case atStart => exact ⟨0, by omega, rfl, Lib.hid (by simpa [cellsOf] using World.ownsRow_nil _ _ _ _), Below.refl _ _⟩
  case round =>
    obtain ⟨k, hk, rfl, HO, HB⟩ := hrel
    by_cases hlt : k < l.length
    · have hdk : decide ((k : Int) < (l.length : Int)) = true := by simp; omega
      have hi1 : (0 : Int) ≤ (k : Int) := by omega
      obtain ⟨b, o, rfl, hb, hrr⟩ := HR.out (by omega)
      have et := hrr.at_ k hlt
      simp only [← HB.out.cell (p := ⟨b, _, none⟩) hb] at et
      have hbr : b < wr.heap.size := by have := HB.out.size; omega
      have htk : cellsOf (l.take (k + 1)) = cellsOf (l.take k) ++ l[k].cells := by
        rw [List.take_succ_eq_append_getElem hlt, cellsOf_snoc]
      generalize l[k] = t at *
      have HT := Lib.hid htk
      clear htk hrr
      go_wp2_with (at_builtin; refine wpList_append_own _ rfl (.tmp 16) (.tmp 18) _ rfl w.heap.size 34 j0 _ 4 40 Try.underlying27 hj0 hy0 hy1 hy2 rfl (by decide) u3 k (cellsOf (l.take k)) rfl ((HO.out.alloc _).alloc _) ⟨wr.heap.size + 1, 0, none⟩ 1 1 [.int .i64 t.kind, .string t.text, .int .i64 t.value, .int .i64 t.pos] rfl rfl ?c1 (one_cells4 rfl rfl rfl rfl) (by unfold maxLen; omega) (by omega) (by have := HB.out.size; simp; omega) ?_)
      case c1 =>
        intro j u hj
        have hz : wr.heap.size + 1 = (wr.alloc (.cells #[.int .i64 t.kind, .string t.text, .int .i64 t.value, .int .i64 t.pos] 33)).heap.size := by simp
        rw [hz]
        exact four_new _ _ _ _ _ _ j u hj
      intro v' w2 hown hgr _
      have O2 : Hid (w2.ownsRow w.heap.size 34 4 v' (k + 1) (cellsOf (l.take (k + 1)))) := by
        rw [HT.out]
        exact hown
      have B2 : Hid (Below w.heap.size w w2) := ((HB.out.alloc HB.out.size _).alloc (by have := HB.out.size; simp; omega) _).grown hgr (by have := HB.out.size; simp; omega) (fun k hk => (HO.out.lt k hk).1)
      clear hown hgr HO HB
      go_wp2_with fail
      go_roundw
      case rel => exact ⟨k + 1, by omega, by go_num, O2, B2⟩
      case measure => simp [intOf]; omega
    · obtain rfl : k = l.length := by omega
      have hdk : decide ((l.length : Int) < (l.length : Int)) = false := by simp
      have ho := HO.out
      rw [List.take_length] at ho
      have HO2 := Lib.hid ho
      clear ho HO
      go_wp2_with fail
      refine (CJ.out _ (H1.out.keep HB.out)).mono ?_
      rintro r w1 ⟨rfl, b1⟩
      have B1 := Lib.hid (chain0 HB.out b1)
      have O1 := Lib.hid (own_below HO2.out b1)
      clear b1 HB HO2
      go_wp2_with fail
      refine (CR.out _ _ (Sl.of_own O1.out)).mono ?_
      rintro r w2 ⟨rfl, rfl⟩
      go_wp2_with fail
      refine (AW.out _).mono ?_
      rintro r w3 ⟨rfl, b3⟩
      have B3 := Lib.hid (chain0 B1.out b3)
      clear b3 B1
      go_wp2_with fail
      go_ret
      exact ⟨rfl, B3.out⟩
theorem law_joins (l : List Tok) (A1 : Option Addr) (c1 : Nat) (w : World) (hl : l.length ≤ maxLen) (h1 : Sl w 4 (.slice A1 l.length c1) l.length (cellsOf l)) (hlen : (joinBytes l).length ≤ 140737488355328) :
    Calls Try.prog 5 #[.slice A1 l.length c1] w fun e w' => e = .returned (.bool true) ∧ Below w.heap.size w w' := by
  by_cases hb : l.length ≤ 200
  · exact law_joins_main l A1 c1 w hb h1 hlen
  · have AW := Lib.hid awake_any
    clear h1 hlen
    generalize l.length = n at *
    unfold maxLen at hl
    have d1 : decide ((200 : Int) < (n : Int)) = true := by simp; omega
    clear hb
    go_enter Try.func5, Try.ntmps5
    go_wp2_with fail
    refine (AW.out _).mono ?_
    rintro e w1 ⟨rfl, b1⟩
    go_wp2_with fail
    go_ret
    exact ⟨rfl, b1⟩
/-- the joined text is no longer than the texts and their number -/
theorem joinTo_le (l : List Tok) : ∀ k, k ≤ l.length → (joinTo l k).length ≤ ((l.take k).map fun t => t.text.size + 1).sum
  | 0, _ => by simp [joinTo]
  | k + 1, h => by
    have ih := joinTo_le l k (by omega)
    have hz : (l.getD k Tok.none).text.data.toList.length = l[k].text.size := by rw [getD_eq l k (by omega)]; rfl
    rw [List.take_succ_eq_append_getElem (by omega), List.map_append, List.sum_append, joinTo, List.length_append, List.length_append, hz]
    simp only [List.map_cons, List.map_nil, List.sum_cons, List.sum_nil]
    generalize ((l.take k).map fun t => t.text.size + 1).sum = x at *
    generalize (joinTo l k).length = y at *
    have h1 : (if sep l k = true then [(32 : UInt8)] else []).length ≤ 1 := by split <;> simp
    omega
theorem joinBytes_le (l : List Tok) : (joinBytes l).length ≤ (l.map fun t => t.text.size + 1).sum := by
  have := joinTo_le l l.length (Nat.le_refl _)
  rw [List.take_length] at this
  exact this
end Lex
end Go.Proofs.Ytabkaaapkcadhaa
