/- Contracts of Format of both, whole. -/
import Derived.Test.YtabkaaapkcadhaaCatI
namespace Go.Proofs.Ytabkaaapkcadhaa
open Go.ChangeShapes Go.WideShapes Go.ChangeAt Go.RowKit
set_option linter.unusedVariables false
set_option linter.unusedSimpArgs false
namespace Cat
open Lex
def fmtS (b : Nat → Int) (l : List Prod) : ByteArray := if rfitsB b l = true then ⟨#[123]⟩ ++ joinS (fparts b l l.length) ++ ⟨#[125]⟩ else ⟨#[]⟩
theorem format_bad (l : List Prod) (A : Option Addr) (c : Nat) (b : Nat → Int) (w : World) (hl : l.length ≤ 5000) (h : PS w (.slice A l.length c) l) (hn : ∀ p ∈ l, p.name.size ≤ maxLen) (hz : checkE l ≠ 0) :
    Calls Try.prog 54 #[.slice A l.length c, .agg (arr b)] w fun e w' => e = .returned (.string ⟨#[]⟩) ∧ Below w.heap.size w w' := by
  have CC := Lib.hid (fun w' (k : Below w.heap.size w w') => check_any l (.slice A l.length c) w' hl (Sl.keep h k) hn)
  have hz2 : (checkE l != 0) = true := by simpa using hz
  clear h hn hz
  unfold arr
  go_enter Try.func54, Try.ntmps54
  go_wp2_with fail
  refine (CC.out _ (below_new _ _)).mono ?_
  rintro e w1 ⟨rfl, b1⟩
  have B1 := Lib.hid (chain1 (Below.refl _ _) b1)
  clear b1
  go_wp2_with fail
  go_ret
  exact ⟨rfl, B1.out⟩
theorem format_bad2 (l : List Prod) (A : Option Addr) (c : Nat) (b : Nat → Int) (w : World) (hl : l.length ≤ 5000) (h : PS w (.slice A l.length c) l) (hn : ∀ p ∈ l, p.name.size ≤ maxLen) (hz : checkE l = 0) (hv : fitsB b l.length = false) :
    Calls Try.prog 54 #[.slice A l.length c, .agg (arr b)] w fun e w' => e = .returned (.string ⟨#[]⟩) ∧ Below w.heap.size w w' := by
  have CC := Lib.hid (fun w' (k : Below w.heap.size w w') => check_any l (.slice A l.length c) w' hl (Sl.keep h k) hn)
  have CF := Lib.hid (fun w' => fits_any l.length A c b w' hl)
  rw [hv] at CF
  have HK := Lib.hid (fun w1 (k : Below (w.alloc (.cells (arr b) 60)).heap.size (w.alloc (.cells (arr b) 60)) w1) => (box_new w b 60).below k (by go_size))
  have hz2 : (checkE l != 0) = false := by simpa using hz
  clear h hn hz hv
  unfold arr at CF
  unfold arr
  go_enter Try.func54, Try.ntmps54
  go_wp2_with fail
  refine (CC.out _ (below_new _ _)).mono ?_
  rintro e w1 ⟨rfl, d1⟩
  have K1 := Lib.hid (HK.out _ d1)
  have c1 := K1.out.cells
  have g1 := K1.out.lt
  have B1 := Lib.hid (chain1 (Below.refl _ _) d1)
  clear d1
  go_wp2_with fail
  refine (CF.out _).mono ?_
  rintro e w2 ⟨rfl, d2⟩
  have B2 := Lib.hid (chain0 B1.out d2)
  clear d2
  go_wp2_with fail
  go_ret
  exact ⟨rfl, B2.out⟩
theorem format_any (l : List Prod) (v : Value) (b : Nat → Int) (w : World) (hl : l.length ≤ 5000) (h : PS w v l) (hn : ∀ p ∈ l, p.name.size ≤ maxLen) :
    Calls Try.prog 54 #[v, .agg (arr b)] w fun e w' => e = .returned (.string (fmtS b l)) ∧ Below w.heap.size w w' := by
  obtain ⟨A, c, rfl, k1, k2, ha⟩ := ps_cases h
  unfold fmtS rfitsB
  by_cases hz : checkE l = 0
  · cases hv : fitsB b l.length with
    | false => rw [if_neg (by simp)]; exact format_bad2 l A c b w hl h hn hz hv
    | true =>
      rw [if_pos (by rw [hz]; rfl)]
      obtain ⟨b1, o1, rfl, _, r⟩ := ha (checkE_zero hz).1
      exact format_some l b1 o1 c b w k1 k2 r hn hz hv
  · rw [if_neg (by simp [hz])]
    exact format_bad l A c b w hl h hn hz
theorem rformat_bad (l : List Prod) (v : Value) (b : Nat → Int) (w : World) (hl : l.length ≤ 5000) (h : PS w v l) (hn : ∀ p ∈ l, p.name.size ≤ maxLen) (hv : rfitsB b l = false) :
    Calls Try.prog 55 #[v, .agg (arr b)] w fun e w' => e = .returned (.string ⟨#[]⟩) ∧ Below w.heap.size w w' := by
  have CF := Lib.hid (fun w' (k : Below w.heap.size w w') => rfits_any l v b w' hl (Sl.keep h k) hn)
  rw [hv] at CF
  obtain ⟨A, c, rfl, _, _, _⟩ := ps_cases h
  clear h hn hv
  unfold arr at CF
  unfold arr
  go_enter Try.func55, Try.ntmps55
  go_wp2_with fail
  refine (CF.out _ (below_new _ _)).mono ?_
  rintro e w2 ⟨rfl, d2⟩
  have B2 := Lib.hid (chain1 (Below.refl _ _) d2)
  clear d2
  go_wp2_with fail
  go_ret
  exact ⟨rfl, B2.out⟩
theorem add_small (a b : ByteArray) (h : a.size ≤ 2000) (h2 : b.size ≤ 2000) (W : World) : (Op.stringOp .add a b).run Try.prog W = .ok (.string (a ++ b)) W := run_string_add_sum W _ _ (by omega)
theorem app_size (a b : ByteArray) (n m : Nat) (h : a.size ≤ n) (h2 : b.size ≤ m) : (a ++ b).size ≤ n + m := by rw [ByteArray.size_append]; omega
theorem ba_assoc (a b c : ByteArray) : a ++ b ++ c = a ++ (b ++ c) := by
  apply ByteArray.ext
  simp [Array.append_assoc]
theorem joinS_empty (x : ByteArray) : joinS ([] ++ [x]) = ⟨#[]⟩ ++ x := by
  rw [List.nil_append, joinS_one]
  apply ByteArray.ext
  simp
theorem joinS_ne (xs : List ByteArray) (h : xs ≠ []) (hx : ∀ x ∈ xs, 0 < x.size) : 0 < (joinS xs).size := by
  cases xs with
  | nil => exact absurd rfl h
  | cons y r =>
    have h1 := hx y (by simp)
    have h3 : 0 < y.data.toList.length := h1
    show 0 < (Lib.join _ _).toArray.size
    rw [List.map_cons, Lib.join_cons]
    simp at h3 ⊢
    omega
theorem fparts_pos (b : Nat → Int) (l : List Prod) : ∀ k, ∀ x ∈ fparts b l k, 0 < x.size
  | 0, x, hx => by cases hx
  | k + 1, x, hx => by
    unfold fparts at hx
    rcases List.mem_append.1 hx with hx | hx
    · exact fparts_pos b l k x hx
    · split at hx
      · rw [List.mem_singleton.1 hx]
        unfold elemS digS
        simp only [ByteArray.size_append]
        show 0 < _ + 1 + 1
        omega
      · cases hx
theorem add_dig3 (a : ByteArray) (h : a.size ≤ 1900) (d : UInt8) (W : World) : (Op.stringOp .add a ⟨#[d]⟩).run Try.prog W = .ok (.string (a ++ ⟨#[d]⟩)) W := add_small a _ (by omega) (by show 1 ≤ _; omega) W
theorem tl_ne {s : ByteArray} (h : 0 < s.size) : s.toList.isEmpty = false := by
  rw [ByteArray.toList_eq]
  obtain ⟨⟨x⟩⟩ := s
  cases x with
  | nil => exact absurd h (Nat.lt_irrefl 0)
  | cons a b => rfl
theorem drewN_below' (w : World) (n : Nat) : Below w.heap.size w (w.drewN n) := drewN_below w n
theorem Box.drewN {w : World} {b : Nat} {p : Nat → Int} (h : Box w b p) (n : Nat) : Box (w.drewN n) b p := ⟨h.blk⟩
set_option maxRecDepth 100000 in
set_option maxHeartbeats 4000000 in
theorem rformat_some (l : List Prod) (b1 o1 c : Nat) (b : Nat → Int) (w : World) (hc : l.length ≤ c) (hm : c ≤ maxLen) (h1 : ProdRow w b1 o1 l) (hl : l.length ≤ 5000) (hps : PS w (.slice (some ⟨b1, o1, none⟩) l.length c) l) (hn : ∀ p ∈ l, p.name.size ≤ maxLen) (hv : rfitsB b l = true) :
    Calls Try.prog 55 #[.slice (some ⟨b1, o1, none⟩) l.length c, .agg (arr b)] w fun e w' => e = .returned (.string (⟨#[123]⟩ ++ joinS (fparts b l l.length) ++ ⟨#[125]⟩)) ∧ Below w.heap.size w w' := by
  have CF := Lib.hid (fun w' (k : Below w.heap.size w w') => rfits_any l _ b w' hl (Sl.keep hps k) hn)
  rw [hv] at CF
  have hz : checkE l = 0 := by unfold rfitsB at hv; simp at hv; exact hv.1
  have hvb : validB b = true := by unfold rfitsB fitsB at hv; simp at hv; exact hv.2.1
  obtain ⟨h0, h6, hg⟩ := checkE_zero hz
  have hb1 : b1 < w.heap.size := block_lt_of_cell (h1.at_ 0 h0).1
  have HR := Lib.hid fun w' => h1.below (w' := w') hb1
  have HK := Lib.hid (fun w1 (k : Below (w.alloc (.cells (arr b) 60)).heap.size (w.alloc (.cells (arr b) 60)) w1) => (box_new w b 60).below k (by go_size))
  have HV := Lib.hid (validB_iff.1 hvb)
  have HX := Lib.hid (fparts_mem (b := b) (l := l) (fun p hp => nameOk_size (checkGo_range l 0 hg p hp).2))
  have HPO := Lib.hid (fparts_pos b l)
  have HU : Hid (∀ k, fparts b l (k + 1) = fparts b l k ++ (if 0 < b k then [elemS (l.getD k Prod.none) (b k)] else [])) := fun _ => rfl
  have HL := Lib.hid (fparts_len b l)
  have HN := Lib.hid (fun p hp => nameOk_size (checkGo_range l 0 hg p hp).2)
  clear h1 hn hz hv hg hvb hps
  unfold arr at CF
  unfold maxLen at hm
  unfold arr
  go_enter Try.func55, Try.ntmps55
  go_wp2_with fail
  refine (CF.out _ (below_new _ _)).mono ?_
  rintro e w2 ⟨rfl, d2⟩
  have B2 := Lib.hid (chain1 (Below.refl _ _) d2)
  have K2 := Lib.hid (HK.out _ d2)
  clear d2
  go_wp2_with fail
  go_loopw [6, 5] (fun i v wr => ∃ k : Nat, k ≤ l.length ∧ i = .int .i64 (k : Int) ∧ v = .string (joinS (fparts b l k)) ∧ Hid (Box wr w.heap.size b) ∧ Hid (Below w.heap.size w wr)) (fun i _ _ => l.length - (intOf i).toNat)
  case atStart => exact ⟨0, by omega, rfl, rfl, K2.out, B2.out⟩
  case round =>
    obtain ⟨k, hk, rfl, rfl, K, B⟩ := hrel
    have hfl := HL.out k
    have HSZ := Lib.hid (joinS_size _ (HX.out k hk))
    by_cases hlt : k < l.length
    · have hd : decide ((k : Int) < (l.length : Int)) = true := by simp; omega
      have hi0 : (0 : Int) ≤ (k : Int) := by omega
      have hk6 : k < 6 := by omega
      have h6k : (k : Int) < 6 := by omega
      have et := (HR.out _ B.out).at_ k hlt
      have hbr : b1 < wr.heap.size := by have := B.out.size; omega
      have hbk := K.out.cell k hk6
      have gz := K.out.lt
      have hbb := HV.out k hk6
      have E := Lib.hid (HU.out k)
      rw [getD_prod l k hlt] at E
      have hps := HN.out l[k] (List.getElem_mem hlt)
      have HPk := Lib.hid (HPO.out k)
      generalize l[k] = p at *
      by_cases hp : 0 < b k
      · have hpd : decide (0 < b k) = true := decide_eq_true hp
        have HE := Lib.hid (show fparts b l (k + 1) = fparts b l k ++ [elemS p (b k)] by rw [E.out, if_pos hp])
        clear E
        generalize fparts b l k = xs at *
        have hj : (joinS xs).size ≤ 500 := by have := HSZ.out; omega
        generalize hbn : b k = n at *
        clear hbn
        have hn4 : n = 1 ∨ n = 2 ∨ n = 3 ∨ n = 4 := by omega
        clear hbb hp hpd
        by_cases hx : xs = []
        · subst hx
          have HJ := Lib.hid (show joinS ([] ++ [elemS p n]) = ⟨#[]⟩ ++ p.name ++ ⟨#[58]⟩ ++ digS n by rw [joinS_empty]; unfold elemS; simp only [ba_assoc])
          rw [joinS_nil] at *
          have t1 := add_small ⟨#[]⟩ p.name (by show 0 ≤ _; omega) (by omega)
          have t2 := add_small (⟨#[]⟩ ++ p.name) ⟨#[58]⟩ (by rw [ByteArray.size_append]; show 0 + _ ≤ _; omega) (by show 1 ≤ _; omega)
          have t3 := add_dig3 (⟨#[]⟩ ++ p.name ++ ⟨#[58]⟩) (by rw [ByteArray.size_append, ByteArray.size_append]; show 0 + _ + 1 ≤ _; omega)
          clear HSZ
          rcases hn4 with rfl | rfl | rfl | rfl
          all_goals
            go_wp2_with fail
            go_quiet (fail)
            go_wp2_with fail
            go_roundw
            case rel => exact ⟨k + 1, by omega, by go_num, by rw [HE.out, HJ.out]; rfl, K.out.drewN _, chain0 B.out (drewN_below _ _)⟩
            case measure => simp [intOf]; omega
        · have hne := tl_ne (joinS_ne xs hx HPk.out)
          have HJ := Lib.hid (show joinS (xs ++ [elemS p n]) = joinS xs ++ ⟨#[44]⟩ ++ p.name ++ ⟨#[58]⟩ ++ digS n by rw [joinS_snoc xs _ hx]; unfold elemS; simp only [ba_assoc])
          generalize joinS xs = s at *
          have t0 := add_small s ⟨#[44]⟩ (by omega) (by show 1 ≤ _; omega)
          have t1 := add_small (s ++ ⟨#[44]⟩) p.name (by rw [ByteArray.size_append]; show _ + 1 ≤ _; omega) (by omega)
          have t2 := add_small (s ++ ⟨#[44]⟩ ++ p.name) ⟨#[58]⟩ (by rw [ByteArray.size_append, ByteArray.size_append]; show _ + 1 + _ ≤ _; omega) (by show 1 ≤ _; omega)
          have t3 := add_dig3 (s ++ ⟨#[44]⟩ ++ p.name ++ ⟨#[58]⟩) (by rw [ByteArray.size_append, ByteArray.size_append, ByteArray.size_append]; show _ + 1 + _ + 1 ≤ _; omega)
          clear HSZ
          rcases hn4 with rfl | rfl | rfl | rfl
          all_goals
            go_wp2_with fail
            go_quiet (fail)
            go_wp2_with fail
            go_roundw
            case rel => exact ⟨k + 1, by omega, by go_num, by rw [HE.out, HJ.out]; rfl, K.out.drewN _, chain0 B.out (drewN_below _ _)⟩
            case measure => simp [intOf]; omega
      · have hpd : decide (0 < b k) = false := decide_eq_false hp
        have HE := Lib.hid (show fparts b l (k + 1) = fparts b l k by rw [E.out, if_neg hp, List.append_nil])
        clear hp E HSZ
        go_wp2_with fail
        go_roundw
        case rel => exact ⟨k + 1, by omega, by go_num, by rw [HE.out], K.out, B.out⟩
        case measure => simp [intOf]; omega
    · obtain rfl : k = l.length := by omega
      have hd : decide ((l.length : Int) < (l.length : Int)) = false := by simp
      generalize hxs : fparts b l l.length = xs at *
      have HXX := Lib.hid hxs
      clear hxs
      have g1 := fun W => add_open (joinS xs) (by have := HSZ.out; omega) W
      have g2 := fun W => add_close (joinS xs) (by have := HSZ.out; omega) W
      clear HSZ
      go_wp2_with fail
      go_ret
      exact ⟨by rw [HXX.out]; rfl, B.out⟩
theorem rformat_any (l : List Prod) (v : Value) (b : Nat → Int) (w : World) (hl : l.length ≤ 5000) (h : PS w v l) (hn : ∀ p ∈ l, p.name.size ≤ maxLen) :
    Calls Try.prog 55 #[v, .agg (arr b)] w fun e w' => e = .returned (.string (fmtS b l)) ∧ Below w.heap.size w w' := by
  obtain ⟨A, c, rfl, k1, k2, ha⟩ := ps_cases h
  unfold fmtS
  cases hv : rfitsB b l with
  | false => rw [if_neg (by simp)]; exact rformat_bad l _ b w hl h hn hv
  | true =>
    rw [if_pos rfl]
    have hz : checkE l = 0 := by unfold rfitsB at hv; simp at hv; exact hv.1
    obtain ⟨b1, o1, rfl, _, r⟩ := ha (checkE_zero hz).1
    exact rformat_some l b1 o1 c b w k1 k2 r hl h hn hv
end Cat
end Go.Proofs.Ytabkaaapkcadhaa
