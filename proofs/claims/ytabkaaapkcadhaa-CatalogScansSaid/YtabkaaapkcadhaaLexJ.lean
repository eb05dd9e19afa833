/- Contracts of Join. Printed by gen_lexJ.py. -/
import Derived.Test.YtabkaaapkcadhaaLexW
import Derived.Test.YtabkaaapkcadhaaShelf
namespace Go.Proofs.Ytabkaaapkcadhaa
open Go.ChangeShapes Go.WideShapes Go.ChangeAt Go.RowKit
namespace Lex
def sep (L : List Tok) (k : Nat) : Bool := decide (0 < k) && (decide ((L.getD k Tok.none).kind ≠ 3) && decide ((L.getD (k - 1) Tok.none).kind ≠ 3))
/-- the bytes of the first k tokens joined -/
def joinTo (L : List Tok) : Nat → List UInt8
  | 0 => []
  | k + 1 => joinTo L k ++ ((if sep L k then [32] else []) ++ (L.getD k Tok.none).text.data.toList)
def joinBytes (L : List Tok) : List UInt8 := joinTo L L.length
theorem joinTo_mono (L : List Tok) : ∀ k n, k ≤ n → (joinTo L k).length ≤ (joinTo L n).length
  | k, n, h => by
    induction n with
    | zero => obtain rfl : k = 0 := by omega
              exact Nat.le_refl _
    | succ n ih =>
      by_cases e : k = n + 1
      · subst e; exact Nat.le_refl _
      · have := ih (by omega)
        rw [joinTo, List.length_append]
        omega
theorem join_sep {L : List Tok} {k : Nat} (h : sep L k = true) : joinTo L (k + 1) = joinTo L k ++ [32] ++ (L.getD k Tok.none).text.data.toList := by
  rw [joinTo, if_pos h]; simp
theorem join_nosep {L : List Tok} {k : Nat} (h : sep L k = false) : joinTo L (k + 1) = joinTo L k ++ (L.getD k Tok.none).text.data.toList := by
  rw [joinTo, if_neg (by rw [h]; exact Bool.false_ne_true)]; simp
theorem getD_eq (L : List Tok) (k : Nat) (h : k < L.length) : L.getD k Tok.none = L[k] := by simp [List.getD, h]
theorem bld_below {T e : TypeId} {B b : Nat} {bs : List Value} {w w' : World} (h : Lib.IsBuilder T e B b bs w) (hb : Below w.heap.size w w') : Lib.IsBuilder T e B b bs w' := by
  have key : ∀ p, Lib.BuilderAt T e B b p bs w → Lib.BuilderAt T e B b p bs w' := by
    rintro p ⟨hB, v, hk, ho, hn⟩
    exact ⟨hB, v, Blk.below' (t := T) hk hb, own_below ho hb, hn⟩
  rcases h with h | h
  · exact .inl (key _ h)
  · exact .inr (key _ h)
theorem byte_snoc (l : List UInt8) (c : UInt8) : Lib.byteCells l ++ [.int .u8 (c.toNat : Int)] = Lib.byteCells (l ++ [c]) := by simp [Lib.byteCells]
theorem byte_str (l : List UInt8) (s : ByteArray) : Lib.byteCells l ++ Lib.strCells s = Lib.byteCells (l ++ s.data.toList) := by
  rw [Lib.strCells_eq, Lib.byteCells_append]

set_option maxHeartbeats 1000000 in
set_option maxRecDepth 100000 in
theorem join_some (L : List Tok) (b1 o1 c1 : Nat) (w : World) (hL : L.length ≤ 5000) (h1 : TokRow w b1 o1 L) (h0 : 0 < L.length) (hlen : (joinBytes L).length ≤ 140737488355328) :
    Calls Try.prog 21 #[.slice (some ⟨b1, o1, none⟩) L.length c1] w fun e w' => e = .returned (.string ⟨(joinBytes L).toArray⟩) ∧ Below w.heap.size w w' := by
  have hb1 : b1 < w.heap.size := block_lt_of_cell (h1.at_ 0 h0).1
  have HR := Lib.hid h1
  have HJ : Hid (∀ k, k ≤ L.length → (joinTo L k).length ≤ 140737488355328) := fun k hk => Nat.le_trans (joinTo_mono L k L.length hk) hlen
  have HE : Hid (joinBytes L = joinTo L L.length) := rfl
  clear h1 h0 hlen
  generalize joinBytes L = res at *
  go_enter Try.func21, Try.ntmps21
  go_wp2_with fail
  go_loopw [8] (fun i wr => ∃ k : Nat, k ≤ L.length ∧ i = .int .i64 (k : Int) ∧ Hid (Lib.IsBuilder 88 5 w.heap.size w.heap.size (Lib.byteCells (joinTo L k)) wr) ∧ Hid (Below w.heap.size w wr)) (fun i _ => L.length - (intOf i).toNat)
  case atStart => exact ⟨0, by omega, rfl, Lib.fresh_isBuilder _ _ w, below_new _ _⟩
  case round =>
    obtain ⟨k, hk, rfl, HI, HB0⟩ := hrel
    have hbs : w.heap.size < wr.heap.size := by
      rcases HI.out with h | h
      · exact h.lt
      · exact h.lt
    by_cases hlt : k < L.length
    · have hd : decide ((k : Int) < (L.length : Int)) = true := by simp; omega
      have hi0 : (0 : Int) ≤ (k : Int) := by omega
      have et := HR.out.at_ k hlt
      simp only [← HB0.out.cell (p := ⟨b1, _, none⟩) hb1] at et
      have hbr : b1 < wr.heap.size := by have := HB0.out.size; omega
      have hgd := getD_eq L k hlt
      by_cases hk0 : k = 0
      · subst hk0
        have hs : sep L 0 = false := rfl
        generalize L[0] = t at *
        simp only [Nat.zero_mul, Nat.add_zero] at et
        simp at hd hi0
        have HJS : Hid (joinTo L (0 + 1) = joinTo L (0) ++ t.text.data.toList) := by
          rw [← hgd]
          exact join_nosep hs
        have HN1 : Hid ((joinTo L (0) ++ t.text.data.toList).length ≤ 140737488355328) := by rw [← HJS.out]; exact HJ.out _ (by omega)
        clear hgd hs
        go_wp2_with fail
        refine (Bld.writeString_any w.heap.size w.heap.size _ t.text _ (bld_below HI.out (below_new _ _)) (by rw [Lib.byteCells_length]; have := HN1.out; simp only [List.length_append] at this; have hz : t.text.data.toList.length = t.text.size := rfl; omega) (by simp; have := HB0.out.size; omega)).mono ?_
        rintro e w3 ⟨rfl, h3, b3, _⟩
        have I3 : Hid (Lib.IsBuilder 88 5 w.heap.size w.heap.size (Lib.byteCells (joinTo L (0 + 1))) w3) := by
          rw [HJS.out, ← byte_str]
          exact h3
        have B3 : Hid (Below w.heap.size w w3) := (HB0.out.alloc HB0.out.size _).trans b3
        clear h3 b3
        go_wp2_with fail
        go_roundw
        case rel => exact ⟨0 + 1, by omega, by go_num, I3, B3⟩
        case measure => simp [intOf]; omega
      · obtain ⟨j, rfl⟩ : ∃ j, k = j + 1 := ⟨k - 1, by omega⟩
        have ep := (HR.out.at_ j (by omega)).1
        rw [← HB0.out.cell (p := ⟨b1, _, none⟩) hb1] at ep
        have hgp := getD_eq L j (by omega)
        have hk1 : decide ((0 : Int) < (j : Int) + 1) = true := decide_eq_true (by omega)
        have hse : sep L (j + 1) = (decide (L[j + 1].kind ≠ 3) && decide (L[j].kind ≠ 3)) := by
          unfold sep
          rw [hgd, Nat.add_sub_cancel, hgp, decide_eq_true (Nat.succ_pos j), Bool.true_and]
        generalize L[j + 1] = t at *
        generalize L[j] = p at *
        clear hgp hk0
        obtain ⟨pk, pt, pv, pp⟩ := p
        dsimp only at ep hse
        by_cases h3 : t.kind = 3
        · have hs : sep L (j + 1) = false := by rw [hse, h3]; rfl
          have n3 : (t.kind != 3) = false := by rw [h3]; rfl
          clear hse h3
          have HJS : Hid (joinTo L (j + 1 + 1) = joinTo L (j + 1) ++ t.text.data.toList) := by
            rw [← hgd]
            exact join_nosep hs
          have HN1 : Hid ((joinTo L (j + 1) ++ t.text.data.toList).length ≤ 140737488355328) := by rw [← HJS.out]; exact HJ.out _ (by omega)
          clear hgd hs
          go_wp2_with fail
          refine (Bld.writeString_any w.heap.size w.heap.size _ t.text _ (bld_below HI.out (below_new _ _)) (by rw [Lib.byteCells_length]; have := HN1.out; simp only [List.length_append] at this; have hz : t.text.data.toList.length = t.text.size := rfl; omega) (by simp; have := HB0.out.size; omega)).mono ?_
          rintro e w3 ⟨rfl, h3, b3, _⟩
          have I3 : Hid (Lib.IsBuilder 88 5 w.heap.size w.heap.size (Lib.byteCells (joinTo L (j + 1 + 1))) w3) := by
            rw [HJS.out, ← byte_str]
            exact h3
          have B3 : Hid (Below w.heap.size w w3) := (HB0.out.alloc HB0.out.size _).trans b3
          clear h3 b3
          go_wp2_with fail
          go_roundw
          case rel => exact ⟨j + 1 + 1, by omega, by go_num, I3, B3⟩
          case measure => simp [intOf]; omega
        · have n3 : (t.kind != 3) = true := by simpa using h3
          by_cases hp3 : pk = 3
          · have hs : sep L (j + 1) = false := by rw [hse, hp3]; simp
            subst hp3
            clear hse h3
            have HJS : Hid (joinTo L (j + 1 + 1) = joinTo L (j + 1) ++ t.text.data.toList) := by
              rw [← hgd]
              exact join_nosep hs
            have HN1 : Hid ((joinTo L (j + 1) ++ t.text.data.toList).length ≤ 140737488355328) := by rw [← HJS.out]; exact HJ.out _ (by omega)
            clear hgd hs
            go_wp2_with fail
            refine (Bld.writeString_any w.heap.size w.heap.size _ t.text _ (bld_below HI.out (below_new _ _)) (by rw [Lib.byteCells_length]; have := HN1.out; simp only [List.length_append] at this; have hz : t.text.data.toList.length = t.text.size := rfl; omega) (by simp; have := HB0.out.size; omega)).mono ?_
            rintro e w3 ⟨rfl, h3, b3, _⟩
            have I3 : Hid (Lib.IsBuilder 88 5 w.heap.size w.heap.size (Lib.byteCells (joinTo L (j + 1 + 1))) w3) := by
              rw [HJS.out, ← byte_str]
              exact h3
            have B3 : Hid (Below w.heap.size w w3) := (HB0.out.alloc HB0.out.size _).trans b3
            clear h3 b3
            go_wp2_with fail
            go_roundw
            case rel => exact ⟨j + 1 + 1, by omega, by go_num, I3, B3⟩
            case measure => simp [intOf]; omega
          · have np3 : (pk != 3) = true := by simpa using hp3
            have hs : sep L (j + 1) = true := by rw [hse]; simp [h3, hp3]
            clear hse h3 hp3
            have HJS : Hid (joinTo L (j + 1 + 1) = joinTo L (j + 1) ++ [32] ++ t.text.data.toList) := by
              rw [← hgd]
              exact join_sep hs
            have HN1 : Hid ((joinTo L (j + 1) ++ [32] ++ t.text.data.toList).length ≤ 140737488355328) := by rw [← HJS.out]; exact HJ.out _ (by omega)
            clear hgd hs
            go_wp2_with fail
            refine (Bld.writeByte_any w.heap.size w.heap.size _ 32 _ (bld_below HI.out (below_new _ _)) (by rw [Lib.byteCells_length]; have := HN1.out; simp only [List.length_append, List.length_singleton] at this; omega) (by simp; have := HB0.out.size; omega)).mono ?_
            rintro e w2 ⟨rfl, h2, b2, q2⟩
            have I2 : Hid (Lib.IsBuilder 88 5 w.heap.size w.heap.size (Lib.byteCells (joinTo L (j + 1) ++ [32])) w2) := by
              rw [← byte_snoc]
              exact h2
            have B2 : Hid (Below w.heap.size w w2) := (HB0.out.alloc HB0.out.size _).trans b2
            have k2 := q2 _ _ _ (Blk.new wr 33 #[.int .i64 t.kind, .string t.text, .int .i64 t.value, .int .i64 t.pos]) (by decide) (by have := HB0.out.size; have := (below_new w (.cells #[.pointer none, .slice none 0 0] 88)).size; have := hbs; omega)
            have d2 := k2.c4
            clear h2 b2 q2 k2
            go_wp2_with fail
            refine (Bld.writeString_any w.heap.size w.heap.size _ t.text _ I2.out (by rw [Lib.byteCells_length]; have := HN1.out; simp only [List.length_append, List.length_singleton] at this; have hz : t.text.data.toList.length = t.text.size := rfl; simp only [List.length_append, List.length_singleton]; omega) (by exact B2.out.size)).mono ?_
            rintro e w3 ⟨rfl, h3, b3, _⟩
            have I3 : Hid (Lib.IsBuilder 88 5 w.heap.size w.heap.size (Lib.byteCells (joinTo L (j + 1 + 1))) w3) := by
              rw [HJS.out, ← byte_str]
              exact h3
            have B3 : Hid (Below w.heap.size w w3) := B2.out.trans b3
            clear h3 b3
            go_wp2_with fail
            go_roundw
            case rel => exact ⟨j + 1 + 1, by omega, by go_num, I3, B3⟩
            case measure => simp [intOf]; omega
    · obtain rfl : k = L.length := by omega
      have hd : decide ((L.length : Int) < (L.length : Int)) = false := by simp
      go_wp2_with fail
      refine (Try.Builder_String_any w.heap.size w.heap.size _ _ HI.out HB0.out.size).mono ?_
      rintro e w3 ⟨rfl, b3⟩
      go_wp2_with fail
      go_ret
      exact ⟨by rw [HE.out]; rfl, HB0.out.trans b3⟩

set_option maxHeartbeats 1000000 in
set_option maxRecDepth 100000 in
theorem refJoin_some (L : List Tok) (b1 o1 c1 : Nat) (w : World) (hL : L.length ≤ 5000) (h1 : TokRow w b1 o1 L) (h0 : 0 < L.length) (hlen : (joinBytes L).length ≤ 140737488355328) :
    Calls Try.prog 22 #[.slice (some ⟨b1, o1, none⟩) L.length c1] w fun e w' => e = .returned (.string ⟨(joinBytes L).toArray⟩) ∧ w = w' := by
  have hb1 : b1 < w.heap.size := block_lt_of_cell (h1.at_ 0 h0).1
  have HR := Lib.hid h1
  have HJ : Hid (∀ k, k ≤ L.length → (joinTo L k).length ≤ 140737488355328) := fun k hk => Nat.le_trans (joinTo_mono L k L.length hk) hlen
  have HE : Hid (joinBytes L = joinTo L L.length) := rfl
  clear h1 h0 hlen
  generalize joinBytes L = res at *
  go_enter Try.func22, Try.ntmps22
  go_wp2_with fail
  go_loop [3, 4] (fun s i => ∃ (k : Nat) (a : ByteArray), k ≤ L.length ∧ i = .int .i64 (k : Int) ∧ s = .string a ∧ Hid (a = ⟨(joinTo L k).toArray⟩)) (fun _ i => L.length - (intOf i).toNat)
  case atStart => exact ⟨0, _, by omega, rfl, rfl, rfl⟩
  case round =>
    obtain ⟨k, a, hk, rfl, rfl, HA⟩ := hrel
    by_cases hlt : k < L.length
    · have hd : decide ((k : Int) < (L.length : Int)) = true := by simp; omega
      have hi0 : (0 : Int) ≤ (k : Int) := by omega
      have et := HR.out.at_ k hlt
      have hgd := getD_eq L k hlt
      by_cases hk0 : k = 0
      · subst hk0
        have hs : sep L 0 = false := rfl
        generalize L[0] = t at *
        simp only [Nat.zero_mul, Nat.add_zero] at et
        simp at hd hi0
        have HA2 : Hid ((a ++ t.text) = ⟨(joinTo L (0 + 1)).toArray⟩) := by
          show _ = _
          rw [join_nosep hs, hgd, HA.out]
          apply ByteArray.ext
          simp [ByteArray.data_append]
        have hn1 : a.size + 1 + t.text.size ≤ 140737488355328 + 1 := by
          have h := HJ.out (0 + 1) (by omega)
          rw [join_nosep hs, hgd] at h
          have hz : t.text.data.toList.length = t.text.size := rfl
          have ha : a.size = (joinTo L (0)).length := by rw [HA.out]; rfl
          simp only [List.length_append] at h
          omega
        clear hgd hs
        go_wp2_with fail
        go_round
        case rel => exact ⟨0 + 1, _, by omega, by go_num, rfl, HA2⟩
        case measure => simp [intOf]; omega
      · obtain ⟨j, rfl⟩ : ∃ j, k = j + 1 := ⟨k - 1, by omega⟩
        have ep := (HR.out.at_ j (by omega)).1
        have hgp := getD_eq L j (by omega)
        have hk1 : decide ((0 : Int) < (j : Int) + 1) = true := decide_eq_true (by omega)
        have hse : sep L (j + 1) = (decide (L[j + 1].kind ≠ 3) && decide (L[j].kind ≠ 3)) := by
          unfold sep
          rw [hgd, Nat.add_sub_cancel, hgp, decide_eq_true (Nat.succ_pos j), Bool.true_and]
        generalize L[j + 1] = t at *
        generalize L[j] = p at *
        clear hgp hk0
        obtain ⟨pk, pt, pv, pp⟩ := p
        dsimp only at ep hse
        by_cases h3 : t.kind = 3
        · have hs : sep L (j + 1) = false := by rw [hse, h3]; rfl
          have n3 : (t.kind != 3) = false := by rw [h3]; rfl
          by_cases hp3 : pk = 3
          · subst hp3
            clear hse h3
            have HA2 : Hid ((a ++ t.text) = ⟨(joinTo L (j + 1 + 1)).toArray⟩) := by
              show _ = _
              rw [join_nosep hs, hgd, HA.out]
              apply ByteArray.ext
              simp [ByteArray.data_append]
            have hn1 : a.size + 1 + t.text.size ≤ 140737488355328 + 1 := by
              have h := HJ.out (j + 1 + 1) (by omega)
              rw [join_nosep hs, hgd] at h
              have hz : t.text.data.toList.length = t.text.size := rfl
              have ha : a.size = (joinTo L (j + 1)).length := by rw [HA.out]; rfl
              simp only [List.length_append] at h
              omega
            clear hgd hs
            go_wp2_with fail
            go_round
            case rel => exact ⟨j + 1 + 1, _, by omega, by go_num, rfl, HA2⟩
            case measure => simp [intOf]; omega
          · have np3 : (pk != 3) = true := by simpa using hp3
            clear hse h3 hp3
            have HA2 : Hid ((a ++ t.text) = ⟨(joinTo L (j + 1 + 1)).toArray⟩) := by
              show _ = _
              rw [join_nosep hs, hgd, HA.out]
              apply ByteArray.ext
              simp [ByteArray.data_append]
            have hn1 : a.size + 1 + t.text.size ≤ 140737488355328 + 1 := by
              have h := HJ.out (j + 1 + 1) (by omega)
              rw [join_nosep hs, hgd] at h
              have hz : t.text.data.toList.length = t.text.size := rfl
              have ha : a.size = (joinTo L (j + 1)).length := by rw [HA.out]; rfl
              simp only [List.length_append] at h
              omega
            clear hgd hs
            go_wp2_with fail
            go_round
            case rel => exact ⟨j + 1 + 1, _, by omega, by go_num, rfl, HA2⟩
            case measure => simp [intOf]; omega
        · have n3 : (t.kind != 3) = true := by simpa using h3
          by_cases hp3 : pk = 3
          · have hs : sep L (j + 1) = false := by rw [hse, hp3]; simp
            subst hp3
            clear hse h3
            have HA2 : Hid ((a ++ t.text) = ⟨(joinTo L (j + 1 + 1)).toArray⟩) := by
              show _ = _
              rw [join_nosep hs, hgd, HA.out]
              apply ByteArray.ext
              simp [ByteArray.data_append]
            have hn1 : a.size + 1 + t.text.size ≤ 140737488355328 + 1 := by
              have h := HJ.out (j + 1 + 1) (by omega)
              rw [join_nosep hs, hgd] at h
              have hz : t.text.data.toList.length = t.text.size := rfl
              have ha : a.size = (joinTo L (j + 1)).length := by rw [HA.out]; rfl
              simp only [List.length_append] at h
              omega
            clear hgd hs
            go_wp2_with fail
            go_round
            case rel => exact ⟨j + 1 + 1, _, by omega, by go_num, rfl, HA2⟩
            case measure => simp [intOf]; omega
          · have np3 : (pk != 3) = true := by simpa using hp3
            have hs : sep L (j + 1) = true := by rw [hse]; simp [h3, hp3]
            clear hse h3 hp3
            have HA2 : Hid ((a ++ ⟨#[32]⟩ ++ t.text) = ⟨(joinTo L (j + 1 + 1)).toArray⟩) := by
              show _ = _
              rw [join_sep hs, hgd, HA.out]
              apply ByteArray.ext
              simp [ByteArray.data_append]
            have hn1 : a.size + 1 + t.text.size ≤ 140737488355328 + 1 := by
              have h := HJ.out (j + 1 + 1) (by omega)
              rw [join_sep hs, hgd] at h
              have hz : t.text.data.toList.length = t.text.size := rfl
              have ha : a.size = (joinTo L (j + 1)).length := by rw [HA.out]; rfl
              simp only [List.length_append] at h
              omega
            clear hgd hs
            go_wp2_with fail
            go_round
            case rel => exact ⟨j + 1 + 1, _, by omega, by go_num, rfl, HA2⟩
            case measure => simp [intOf]; omega
    · obtain rfl : k = L.length := by omega
      have hd : decide ((L.length : Int) < (L.length : Int)) = false := by simp
      go_wp2_with fail
      go_ret
      exact ⟨by rw [HE.out, ← HA.out]; rfl, rfl⟩
theorem join_none (A : Option Addr) (c : Nat) (w : World) : Calls Try.prog 21 #[.slice A 0 c] w fun e w' => e = .returned (.string ⟨#[]⟩) ∧ Below w.heap.size w w' := by
  go_enter Try.func21, Try.ntmps21
  go_wp2_with fail
  refine wp_loop_rounds 1 ?_
  rw [rounds_succ]
  go_wp2_with fail
  refine (Try.Builder_String_any w.heap.size w.heap.size [] _ (Lib.fresh_isBuilder _ _ w) (by simp)).mono ?_
  rintro e w3 ⟨rfl, b3⟩
  go_wp2_with fail
  go_ret
  exact ⟨rfl, (below_new _ _).trans b3⟩
theorem refJoin_none (A : Option Addr) (c : Nat) (w : World) : Calls Try.prog 22 #[.slice A 0 c] w fun e w' => e = .returned (.string ⟨#[]⟩) ∧ w = w' := by
  go_enter Try.func22, Try.ntmps22
  go_wp2_with fail
  refine wp_loop_rounds 1 ?_
  rw [rounds_succ]
  go_wp2_with fail
  go_ret
  exact ⟨rfl, rfl⟩
theorem join_any (L : List Tok) (v : Value) (w : World) (hL : L.length ≤ 5000) (h : Sl w 4 v L.length (cellsOf L)) (hlen : (joinBytes L).length ≤ 140737488355328) :
    Calls Try.prog 21 #[v] w fun e w' => e = .returned (.string ⟨(joinBytes L).toArray⟩) ∧ Below w.heap.size w w' := by
  obtain ⟨A, c, rfl, _, _, hr⟩ := sl_cases h
  cases L with
  | nil => exact join_none A c w
  | cons t L =>
    obtain ⟨b, o, rfl, _, h1⟩ := hr (by simp)
    exact join_some (t :: L) b o c w hL h1 (by simp) hlen
theorem refJoin_any (L : List Tok) (v : Value) (w : World) (hL : L.length ≤ 5000) (h : Sl w 4 v L.length (cellsOf L)) (hlen : (joinBytes L).length ≤ 140737488355328) :
    Calls Try.prog 22 #[v] w fun e w' => e = .returned (.string ⟨(joinBytes L).toArray⟩) ∧ w = w' := by
  obtain ⟨A, c, rfl, _, _, hr⟩ := sl_cases h
  cases L with
  | nil => exact refJoin_none A c w
  | cons t L =>
    obtain ⟨b, o, rfl, _, h1⟩ := hr (by simp)
    exact refJoin_some (t :: L) b o c w hL h1 (by simp) hlen
end Lex
end Go.Proofs.Ytabkaaapkcadhaa
