/- Contracts of Format of both, whole. Plain: what Scan of the catalog computes, and that it is what the reference's Tokens computes. Contract of the catalog's element. Contract of the catalog's Scan. Printed by gen_catM.py. -/
import Derived.Test.YthehchdonmmpaaaDoorPs13
import Derived.Test.YthehchdonmmpaaaDoorPs12
import Derived.Test.YthehchdonmmpaaaDoorPs09
import Derived.Deep.LoopGhost
namespace Go.Proofs.YthehchdonmmpaaaDoor
open Go.ChangeShapes Go.WideShapes Go.ChangeAt Go.RowKit
set_option linter.unusedVariables false
set_option linter.unusedSimpArgs false
namespace Cat
open Lex
def fmtS (b : Nat → Int) (l : List Prod) : ByteArray := if rfitsB b l = true then ⟨#[123]⟩ ++ joinS (fparts b l l.length) ++ ⟨#[125]⟩ else ⟨#[]⟩
theorem format_bad (l : List Prod) (A : Option Addr) (c : Nat) (b : Nat → Int) (w : World) (hl : l.length ≤ 5000) (h : PS w (.slice A l.length c) l) (hn : ∀ p ∈ l, p.name.size ≤ maxLen) (hz : checkE l ≠ 0) :
    Calls Tryd.prog 37 #[.slice A l.length c, .agg (arr b)] w fun e w' => e = .returned (.string ⟨#[]⟩) ∧ Below w.heap.size w w' := by
  have CC := Lib.hid (fun w' (k : Below w.heap.size w w') => check_any l (.slice A l.length c) w' hl (Sl.keep h k) hn)
  have hz2 : (checkE l != 0) = true := by simpa using hz
  clear h hn hz
  unfold arr
  go_enter Tryd.func37, Tryd.ntmps37
  go_wp2_with fail
  refine (CC.out _ (below_new _ _)).mono ?_
  rintro e w1 ⟨rfl, b1⟩
  have B1 := Lib.hid (chain1 (Below.refl _ _) b1)
  clear b1
  go_wp2_with fail
  go_ret
  exact ⟨rfl, B1.out⟩
theorem format_bad2 (l : List Prod) (A : Option Addr) (c : Nat) (b : Nat → Int) (w : World) (hl : l.length ≤ 5000) (h : PS w (.slice A l.length c) l) (hn : ∀ p ∈ l, p.name.size ≤ maxLen) (hz : checkE l = 0) (hv : fitsB b l.length = false) :
    Calls Tryd.prog 37 #[.slice A l.length c, .agg (arr b)] w fun e w' => e = .returned (.string ⟨#[]⟩) ∧ Below w.heap.size w w' := by
  have CC := Lib.hid (fun w' (k : Below w.heap.size w w') => check_any l (.slice A l.length c) w' hl (Sl.keep h k) hn)
  have CF := Lib.hid (fun w' => fits_any l.length A c b w' hl)
  rw [hv] at CF
  have HK := Lib.hid (fun w1 (k : Below (w.alloc (.cells (arr b) 42)).heap.size (w.alloc (.cells (arr b) 42)) w1) => (box_new w b 42).below k (by go_size))
  have hz2 : (checkE l != 0) = false := by simpa using hz
  clear h hn hz hv
  unfold arr at CF
  unfold arr
  go_enter Tryd.func37, Tryd.ntmps37
  go_wp2_with fail
  refine (CC.out _ (below_new _ _)).mono ?_
  rintro e w1 ⟨rfl, d1⟩
  have K1 := Lib.hid (HK.out _ d1)
  have c1 := K1.out.cells
  have g1 := K1.out.lt
  have B1 := Lib.hid (chain1 (Below.refl _ _) d1)
  clear d1
  go_wp2_with fail
  refine (CF.out _).mono ?_
  rintro e w2 ⟨rfl, d2⟩
  have B2 := Lib.hid (chain0 B1.out d2)
  clear d2
  go_wp2_with fail
  go_ret
  exact ⟨rfl, B2.out⟩
theorem format_any (l : List Prod) (v : Value) (b : Nat → Int) (w : World) (hl : l.length ≤ 5000) (h : PS w v l) (hn : ∀ p ∈ l, p.name.size ≤ maxLen) :
    Calls Tryd.prog 37 #[v, .agg (arr b)] w fun e w' => e = .returned (.string (fmtS b l)) ∧ Below w.heap.size w w' := by
  obtain ⟨A, c, rfl, k1, k2, ha⟩ := ps_cases h
  unfold fmtS rfitsB
  by_cases hz : checkE l = 0
  · cases hv : fitsB b l.length with
    | false => rw [if_neg (by simp)]; exact format_bad2 l A c b w hl h hn hz hv
    | true =>
      rw [if_pos (by rw [hz]; rfl)]
      obtain ⟨b1, o1, rfl, _, r⟩ := ha (checkE_zero hz).1
      exact format_some l b1 o1 c b w k1 k2 r hn hz hv
  · rw [if_neg (by simp [hz])]
    exact format_bad l A c b w hl h hn hz
theorem rformat_bad (l : List Prod) (v : Value) (b : Nat → Int) (w : World) (hl : l.length ≤ 5000) (h : PS w v l) (hn : ∀ p ∈ l, p.name.size ≤ maxLen) (hv : rfitsB b l = false) :
    Calls Tryd.prog 42 #[v, .agg (arr b)] w fun e w' => e = .returned (.string ⟨#[]⟩) ∧ Below w.heap.size w w' := by
  have CF := Lib.hid (fun w' (k : Below w.heap.size w w') => rfits_any l v b w' hl (Sl.keep h k) hn)
  rw [hv] at CF
  obtain ⟨A, c, rfl, _, _, _⟩ := ps_cases h
  clear h hn hv
  unfold arr at CF
  unfold arr
  go_enter Tryd.func42, Tryd.ntmps42
  go_wp2_with fail
  refine (CF.out _ (below_new _ _)).mono ?_
  rintro e w2 ⟨rfl, d2⟩
  have B2 := Lib.hid (chain1 (Below.refl _ _) d2)
  clear d2
  go_wp2_with fail
  go_ret
  exact ⟨rfl, B2.out⟩
theorem add_small (a b : ByteArray) (h : a.size ≤ 2000) (h2 : b.size ≤ 2000) (W : World) : (Op.stringOp .add a b).run Tryd.prog W = .ok (.string (a ++ b)) W := run_string_add_sum W _ _ (by omega)
theorem app_size (a b : ByteArray) (n m : Nat) (h : a.size ≤ n) (h2 : b.size ≤ m) : (a ++ b).size ≤ n + m := by rw [ByteArray.size_append]; omega
theorem ba_assoc (a b c : ByteArray) : a ++ b ++ c = a ++ (b ++ c) := by
  apply ByteArray.ext
  simp [Array.append_assoc]
theorem joinS_empty (x : ByteArray) : joinS ([] ++ [x]) = ⟨#[]⟩ ++ x := by
  rw [List.nil_append, joinS_one]
  apply ByteArray.ext
  simp
theorem joinS_ne (xs : List ByteArray) (h : xs ≠ []) (hx : ∀ x ∈ xs, 0 < x.size) : 0 < (joinS xs).size := by
  cases xs with
  | nil => exact absurd rfl h
  | cons y r =>
    have h1 := hx y (by simp)
    have h3 : 0 < y.data.toList.length := h1
    show 0 < (Lib.join _ _).toArray.size
    rw [List.map_cons, Lib.join_cons]
    simp at h3 ⊢
    omega
theorem fparts_pos (b : Nat → Int) (l : List Prod) : ∀ k, ∀ x ∈ fparts b l k, 0 < x.size
  | 0, x, hx => by cases hx
  | k + 1, x, hx => by
    unfold fparts at hx
    rcases List.mem_append.1 hx with hx | hx
    · exact fparts_pos b l k x hx
    · split at hx
      · rw [List.mem_singleton.1 hx]
        unfold elemS digS
        simp only [ByteArray.size_append]
        show 0 < _ + 1 + 1
        omega
      · cases hx
theorem add_dig3 (a : ByteArray) (h : a.size ≤ 1900) (d : UInt8) (W : World) : (Op.stringOp .add a ⟨#[d]⟩).run Tryd.prog W = .ok (.string (a ++ ⟨#[d]⟩)) W := add_small a _ (by omega) (by show 1 ≤ _; omega) W
theorem tl_ne {s : ByteArray} (h : 0 < s.size) : s.toList.isEmpty = false := by
  rw [ByteArray.toList_eq]
  obtain ⟨⟨x⟩⟩ := s
  cases x with
  | nil => exact absurd h (Nat.lt_irrefl 0)
  | cons a b => rfl
theorem drewN_below' (w : World) (n : Nat) : Below w.heap.size w (w.drewN n) := drewN_below w n
theorem Box.drewN {w : World} {b : Nat} {p : Nat → Int} (h : Box w b p) (n : Nat) : Box (w.drewN n) b p := ⟨h.blk⟩
set_option maxRecDepth 100000 in
set_option maxHeartbeats 4000000 in
theorem rformat_some (l : List Prod) (b1 o1 c : Nat) (b : Nat → Int) (w : World) (hc : l.length ≤ c) (hm : c ≤ maxLen) (h1 : ProdRow w b1 o1 l) (hl : l.length ≤ 5000) (hps : PS w (.slice (some ⟨b1, o1, none⟩) l.length c) l) (hn : ∀ p ∈ l, p.name.size ≤ maxLen) (hv : rfitsB b l = true) :
    Calls Tryd.prog 42 #[.slice (some ⟨b1, o1, none⟩) l.length c, .agg (arr b)] w fun e w' => e = .returned (.string (⟨#[123]⟩ ++ joinS (fparts b l l.length) ++ ⟨#[125]⟩)) ∧ Below w.heap.size w w' := by
  have CF := Lib.hid (fun w' (k : Below w.heap.size w w') => rfits_any l _ b w' hl (Sl.keep hps k) hn)
  rw [hv] at CF
  have hz : checkE l = 0 := by unfold rfitsB at hv; simp at hv; exact hv.1
  have hvb : validB b = true := by unfold rfitsB fitsB at hv; simp at hv; exact hv.2.1
  obtain ⟨h0, h6, hg⟩ := checkE_zero hz
  have hb1 : b1 < w.heap.size := block_lt_of_cell (h1.at_ 0 h0).1
  have HR := Lib.hid fun w' => h1.below (w' := w') hb1
  have HK := Lib.hid (fun w1 (k : Below (w.alloc (.cells (arr b) 42)).heap.size (w.alloc (.cells (arr b) 42)) w1) => (box_new w b 42).below k (by go_size))
  have HV := Lib.hid (validB_iff.1 hvb)
  have HX := Lib.hid (fparts_mem (b := b) (l := l) (fun p hp => nameOk_size (checkGo_range l 0 hg p hp).2))
  have HPO := Lib.hid (fparts_pos b l)
  have HU : Hid (∀ k, fparts b l (k + 1) = fparts b l k ++ (if 0 < b k then [elemS (l.getD k Prod.none) (b k)] else [])) := fun _ => rfl
  have HL := Lib.hid (fparts_len b l)
  have HN := Lib.hid (fun p hp => nameOk_size (checkGo_range l 0 hg p hp).2)
  clear h1 hn hz hv hg hvb hps
  unfold arr at CF
  unfold maxLen at hm
  unfold arr
  go_enter Tryd.func42, Tryd.ntmps42
  go_wp2_with fail
  refine (CF.out _ (below_new _ _)).mono ?_
  rintro e w2 ⟨rfl, d2⟩
  have B2 := Lib.hid (chain1 (Below.refl _ _) d2)
  have K2 := Lib.hid (HK.out _ d2)
  clear d2
  go_wp2_with fail
  go_loopw [6, 5] (fun i v wr => ∃ k : Nat, k ≤ l.length ∧ i = .int .i64 (k : Int) ∧ v = .string (joinS (fparts b l k)) ∧ Hid (Box wr w.heap.size b) ∧ Hid (Below w.heap.size w wr)) (fun i _ _ => l.length - (intOf i).toNat)
  case atStart => exact ⟨0, by omega, rfl, rfl, K2.out, B2.out⟩
  case round =>
    obtain ⟨k, hk, rfl, rfl, K, B⟩ := hrel
    have hfl := HL.out k
    have HSZ := Lib.hid (joinS_size _ (HX.out k hk))
    by_cases hlt : k < l.length
    · have hd : decide ((k : Int) < (l.length : Int)) = true := by simp; omega
      have hi0 : (0 : Int) ≤ (k : Int) := by omega
      have hk6 : k < 6 := by omega
      have h6k : (k : Int) < 6 := by omega
      have et := (HR.out _ B.out).at_ k hlt
      have hbr : b1 < wr.heap.size := by have := B.out.size; omega
      have hbk := K.out.cell k hk6
      have gz := K.out.lt
      have hbb := HV.out k hk6
      have E := Lib.hid (HU.out k)
      rw [getD_prod l k hlt] at E
      have hps := HN.out l[k] (List.getElem_mem hlt)
      have HPk := Lib.hid (HPO.out k)
      generalize l[k] = p at *
      by_cases hp : 0 < b k
      · have hpd : decide (0 < b k) = true := decide_eq_true hp
        have HE := Lib.hid (show fparts b l (k + 1) = fparts b l k ++ [elemS p (b k)] by rw [E.out, if_pos hp])
        clear E
        generalize fparts b l k = xs at *
        have hj : (joinS xs).size ≤ 500 := by have := HSZ.out; omega
        generalize hbn : b k = n at *
        clear hbn
        have hn4 : n = 1 ∨ n = 2 ∨ n = 3 ∨ n = 4 := by omega
        clear hbb hp hpd
        by_cases hx : xs = []
        · subst hx
          have HJ := Lib.hid (show joinS ([] ++ [elemS p n]) = ⟨#[]⟩ ++ p.name ++ ⟨#[58]⟩ ++ digS n by rw [joinS_empty]; unfold elemS; simp only [ba_assoc])
          rw [joinS_nil] at *
          have t1 := add_small ⟨#[]⟩ p.name (by show 0 ≤ _; omega) (by omega)
          have t2 := add_small (⟨#[]⟩ ++ p.name) ⟨#[58]⟩ (by rw [ByteArray.size_append]; show 0 + _ ≤ _; omega) (by show 1 ≤ _; omega)
          have t3 := add_dig3 (⟨#[]⟩ ++ p.name ++ ⟨#[58]⟩) (by rw [ByteArray.size_append, ByteArray.size_append]; show 0 + _ + 1 ≤ _; omega)
          clear HSZ
          rcases hn4 with rfl | rfl | rfl | rfl
          all_goals
            go_wp2_with fail
            go_quiet (fail)
            go_wp2_with fail
            go_roundw
            case rel => exact ⟨k + 1, by omega, by go_num, by rw [HE.out, HJ.out]; rfl, K.out.drewN _, chain0 B.out (drewN_below _ _)⟩
            case measure => simp [intOf]; omega
        · have hne := tl_ne (joinS_ne xs hx HPk.out)
          have HJ := Lib.hid (show joinS (xs ++ [elemS p n]) = joinS xs ++ ⟨#[44]⟩ ++ p.name ++ ⟨#[58]⟩ ++ digS n by rw [joinS_snoc xs _ hx]; unfold elemS; simp only [ba_assoc])
          generalize joinS xs = s at *
          have t0 := add_small s ⟨#[44]⟩ (by omega) (by show 1 ≤ _; omega)
          have t1 := add_small (s ++ ⟨#[44]⟩) p.name (by rw [ByteArray.size_append]; show _ + 1 ≤ _; omega) (by omega)
          have t2 := add_small (s ++ ⟨#[44]⟩ ++ p.name) ⟨#[58]⟩ (by rw [ByteArray.size_append, ByteArray.size_append]; show _ + 1 + _ ≤ _; omega) (by show 1 ≤ _; omega)
          have t3 := add_dig3 (s ++ ⟨#[44]⟩ ++ p.name ++ ⟨#[58]⟩) (by rw [ByteArray.size_append, ByteArray.size_append, ByteArray.size_append]; show _ + 1 + _ + 1 ≤ _; omega)
          clear HSZ
          rcases hn4 with rfl | rfl | rfl | rfl
          all_goals
            go_wp2_with fail
            go_quiet (fail)
            go_wp2_with fail
            go_roundw
            case rel => exact ⟨k + 1, by omega, by go_num, by rw [HE.out, HJ.out]; rfl, K.out.drewN _, chain0 B.out (drewN_below _ _)⟩
            case measure => simp [intOf]; omega
      · have hpd : decide (0 < b k) = false := decide_eq_false hp
        have HE := Lib.hid (show fparts b l (k + 1) = fparts b l k by rw [E.out, if_neg hp, List.append_nil])
        clear hp E HSZ
        go_wp2_with fail
        go_roundw
        case rel => exact ⟨k + 1, by omega, by go_num, by rw [HE.out], K.out, B.out⟩
        case measure => simp [intOf]; omega
    · obtain rfl : k = l.length := by omega
      have hd : decide ((l.length : Int) < (l.length : Int)) = false := by simp
      generalize hxs : fparts b l l.length = xs at *
      have HXX := Lib.hid hxs
      clear hxs
      have g1 := fun W => add_open (joinS xs) (by have := HSZ.out; omega) W
      have g2 := fun W => add_close (joinS xs) (by have := HSZ.out; omega) W
      clear HSZ
      go_wp2_with fail
      go_ret
      exact ⟨by rw [HXX.out]; rfl, B.out⟩
end Cat
end Go.Proofs.YthehchdonmmpaaaDoor
namespace Go.Proofs.YthehchdonmmpaaaDoor
open Go.ChangeShapes Go.WideShapes Go.ChangeAt Go.RowKit
set_option linter.unusedVariables false
set_option linter.unusedSimpArgs false
namespace Cat
open Lex
structure St where
  L : List Tok
  e : Int
  b : Nat → Int
def findK (l : List Prod) (name : ByteArray) : Nat := (findP l name).getD 0
def elem2 (l : List Prod) (name : ByteArray) (b : Nat → Int) : Int := if findP l name = none then 6 else if b (findK l name) ≠ 0 then 7 else 0
def amt5 (L : List Tok) (e : Int) : Int := if amtV L e 4 = 0 then failE (amtE L e 4) 4 else amtE L e 4
/-- an element's rest, behind its name -/
noncomputable def elemR (L : List Tok) (e : Int) (k : Nat) (b : Nat → Int) : St :=
  ⟨amtL (expL L e ⟨#[58]⟩) (expE L e ⟨#[58]⟩) 4, amt5 (expL L e ⟨#[58]⟩) (expE L e ⟨#[58]⟩), upd b k (amtV (expL L e ⟨#[58]⟩) (expE L e ⟨#[58]⟩) 4)⟩
noncomputable def elemF (l : List Prod) (s : St) : St :=
  if nameE s.L s.e ≠ 0 then ⟨nameL s.L s.e, nameE s.L s.e, s.b⟩
  else elemR (nameL s.L s.e) (elem2 l (nameT s.L s.e) s.b) (findK l (nameT s.L s.e)) s.b
instance (L : List Tok) (e : Int) (m : ByteArray) : Decidable (accB L e m) := inferInstanceAs (Decidable (_ ∧ _))
noncomputable def loopF (l : List Prod) : Nat → St → St
  | 0, s => s
  | f + 1, s => if accB s.L s.e ⟨#[44]⟩ then loopF l f (elemF l ⟨nextL s.L s.e, s.e, s.b⟩) else s
noncomputable def endF (s : St) : St := ⟨expL s.L s.e ⟨#[125]⟩, expE s.L s.e ⟨#[125]⟩, if expE s.L s.e ⟨#[125]⟩ = 0 then s.b else zero6⟩
noncomputable def scanF (l : List Prod) (L : List Tok) (e : Int) : St :=
  if e ≠ 0 then ⟨L, e, zero6⟩
  else if checkE l ≠ 0 then ⟨L, checkE l, zero6⟩
  else if accB (expL L e ⟨#[123]⟩) (expE L e ⟨#[123]⟩) ⟨#[125]⟩ then ⟨nextL (expL L e ⟨#[123]⟩) (expE L e ⟨#[123]⟩), expE L e ⟨#[123]⟩, zero6⟩
  else endF (loopF l (L.length + 1) (elemF l ⟨expL L e ⟨#[123]⟩, expE L e ⟨#[123]⟩, zero6⟩))
/-- what the reference's Tokens computes from the elements on: the bundle, what is left, and how many tokens are behind it -/
def isM (t : Tok) (m : ByteArray) : Bool := t.kind == 3 && eqB t.text m
def refGo (l : List Prod) : List Tok → (Nat → Int) → Nat → Except Int ((Nat → Int) × List Tok × Nat)
  | [], _, _ => .error 1
  | t :: R, b, at_ =>
    if t.kind ≠ 1 then .error 2
    else if findP l t.text = none then .error 6
    else if b (findK l t.text) ≠ 0 then .error 7
    else match R with
      | [] => .error 1
      | t1 :: R1 => if isM t1 ⟨#[58]⟩ = false then .error 2 else match R1 with
        | [] => .error 1
        | t2 :: R2 => if t2.kind ≠ 2 then .error 2 else if ¬ (1 ≤ t2.value ∧ t2.value ≤ 4) then .error 4 else match R2 with
          | [] => .error 1
          | t3 :: R3 => if isM t3 ⟨#[125]⟩ then .ok (upd b (findK l t.text) t2.value, R3, at_ + 4)
            else if isM t3 ⟨#[44]⟩ then refGo l R3 (upd b (findK l t.text) t2.value) (at_ + 4) else .error 2
def refF (l : List Prod) : List Tok → Except Int ((Nat → Int) × List Tok × Nat)
  | [] => .error 1
  | t :: R => if isM t ⟨#[123]⟩ = false then .error 2 else match R with
    | [] => refGo l [] zero6 1
    | t1 :: R1 => if isM t1 ⟨#[125]⟩ then .ok (zero6, R1, 2) else refGo l (t1 :: R1) zero6 1
def toSt (L : List Tok) : Except Int ((Nat → Int) × List Tok × Nat) → Int × (Nat → Int)
  | .error x => (x, zero6)
  | .ok (b, _, _) => (0, b)
/-- once there is an error, nothing more happens -/
theorem err_name {L : List Tok} {e : Int} (h : e ≠ 0) : nameE L e = e := by
  unfold nameE peekT wrongE failE
  simp [h, Tok.none]
theorem err_acc {L : List Tok} {e : Int} (h : e ≠ 0) (m : ByteArray) : ¬ accB L e m := by
  unfold accB peekT
  simp [h, Tok.none]
theorem err_exp {L : List Tok} {e : Int} (h : e ≠ 0) (m : ByteArray) : expE L e m = e ∧ expL L e m = L := by
  unfold expE expL
  rw [if_neg (err_acc h m), if_neg (err_acc h m)]
  unfold wrongE failE
  simp [h]
theorem err_amt {L : List Tok} {e : Int} (h : e ≠ 0) : amt5 L e = e := by
  unfold amt5 amtE amtV peekT wrongE failE
  simp [h, Tok.none]
theorem elemF_err {l : List Prod} {s : St} (h : s.e ≠ 0) : (elemF l s).e = s.e := by
  unfold elemF
  rw [if_pos (by rw [err_name h]; exact h)]
  exact err_name h
theorem loopF_err {l : List Prod} {s : St} (h : s.e ≠ 0) (f : Nat) : loopF l f s = s := by
  cases f with
  | zero => rfl
  | succ f => unfold loopF; rw [if_neg (err_acc h _)]
theorem endF_err {s : St} (h : s.e ≠ 0) : (endF s).e = s.e ∧ (endF s).b = zero6 := by
  unfold endF
  dsimp only
  rw [(err_exp h _).1, if_neg h]
  exact ⟨rfl, rfl⟩
theorem elemR_err {L : List Tok} {e : Int} {k : Nat} {b : Nat → Int} (h : e ≠ 0) : (elemR L e k b).e = e := by
  unfold elemR
  dsimp only
  rw [(err_exp h _).1]
  exact err_amt h
/-- the heads of a list without an error -/
theorem accB_cons (t : Tok) (L : List Tok) (m : ByteArray) : accB (t :: L) 0 m ↔ isM t m = true := by
  unfold accB isM peekT
  simp [eqB_iff]
theorem accB_nil (m : ByteArray) : ¬ accB [] 0 m := by
  unfold accB peekT
  simp [Tok.none]
theorem exp_yes {t : Tok} {L : List Tok} {m : ByteArray} (h : isM t m = true) : expL (t :: L) 0 m = L ∧ expE (t :: L) 0 m = 0 := by
  unfold expL expE
  rw [if_pos ((accB_cons t L m).2 h), if_pos ((accB_cons t L m).2 h)]
  exact ⟨rfl, rfl⟩
theorem exp_no {t : Tok} {L : List Tok} {m : ByteArray} (h : isM t m = false) : expE (t :: L) 0 m = 2 := by
  unfold expE
  rw [if_neg (fun k => by rw [(accB_cons t L m).1 k] at h; cases h)]
  rfl
theorem exp_nil (m : ByteArray) : expE [] 0 m = 1 := by
  unfold expE
  rw [if_neg (accB_nil m)]
  rfl
/-- an element that does not fail, and one that does -/
theorem elemF_cons {l : List Prod} {t : Tok} {R : List Tok} {b : Nat → Int} (h : t.kind = 1) : elemF l ⟨t :: R, 0, b⟩ = elemR R (elem2 l t.text b) (findK l t.text) b := by
  have h1 : nameE (t :: R) 0 = 0 := by unfold nameE peekT; simp [h]
  have h2 : nameL (t :: R) 0 = R := by unfold nameL peekT nextL; simp [h]
  have h3 : nameT (t :: R) 0 = t.text := by unfold nameT peekT; simp [h]
  unfold elemF
  dsimp only
  rw [if_neg (by simp [h1]), h2, h3]
theorem elemF_nil {l : List Prod} {b : Nat → Int} : (elemF l ⟨[], 0, b⟩).e = 1 := by
  have h1 : nameE [] 0 = 1 := by unfold nameE peekT wrongE failE; simp [Tok.none]
  unfold elemF
  dsimp only
  rw [if_pos (by rw [h1]; decide)]
  exact h1
theorem elemF_bad {l : List Prod} {t : Tok} {R : List Tok} {b : Nat → Int} (h : t.kind ≠ 1) : (elemF l ⟨t :: R, 0, b⟩).e = 2 := by
  have h1 : nameE (t :: R) 0 = 2 := by unfold nameE peekT wrongE failE; simp [h]
  unfold elemF
  dsimp only
  rw [if_pos (by rw [h1]; decide)]
  exact h1
theorem elemR_colon {t1 : Tok} {R : List Tok} {k : Nat} {b : Nat → Int} (h : isM t1 ⟨#[58]⟩ = true) : elemR (t1 :: R) 0 k b = ⟨amtL R 0 4, amt5 R 0, upd b k (amtV R 0 4)⟩ := by
  unfold elemR
  rw [(exp_yes h).1, (exp_yes h).2]
theorem amt_good {t2 : Tok} {R : List Tok} (h : t2.kind = 2) (h1 : 1 ≤ t2.value) (h4 : t2.value ≤ 4) : amtL (t2 :: R) 0 4 = R ∧ amt5 (t2 :: R) 0 = 0 ∧ amtV (t2 :: R) 0 4 = t2.value := by
  have e : amtV (t2 :: R) 0 4 = t2.value := by unfold amtV peekT; simp [h, h4, show 0 ≤ t2.value by omega]
  refine ⟨by unfold amtL peekT nextL; simp [h, h4, show 0 ≤ t2.value by omega], ?_, e⟩
  unfold amt5
  rw [e, if_neg (by omega)]
  unfold amtE peekT
  simp [h, h4, show 0 ≤ t2.value by omega]
theorem amt_range {t2 : Tok} {R : List Tok} (h : t2.kind = 2) (h1 : ¬ (1 ≤ t2.value ∧ t2.value ≤ 4)) : amt5 (t2 :: R) 0 = 4 := by
  by_cases h0 : 0 ≤ t2.value ∧ t2.value ≤ 4
  · have e0 : t2.value = 0 := by omega
    unfold amt5 amtV amtE peekT failE
    simp [h, e0]
  · unfold amt5 amtV amtE peekT failE
    simp [h, h0]
theorem amt_kind {t2 : Tok} {R : List Tok} (h : t2.kind ≠ 2) : amt5 (t2 :: R) 0 = 2 := by
  unfold amt5 amtV amtE peekT wrongE failE
  simp [h]
theorem amt_nil : amt5 [] 0 = 1 := by
  unfold amt5 amtV amtE peekT wrongE failE
  simp [Tok.none]
/-- the loop and the end behind an element -/
noncomputable def restF (l : List Prod) (f : Nat) (s : St) : St := endF (loopF l f (elemF l s))
theorem restF_err {l : List Prod} {f : Nat} {s : St} {x : Int} (h : (elemF l s).e = x) (hx : x ≠ 0) : (restF l f s).e = x ∧ (restF l f s).b = zero6 := by
  have h0 : (elemF l s).e ≠ 0 := by rw [h]; exact hx
  unfold restF
  rw [loopF_err h0, (endF_err h0).1, (endF_err h0).2]
  exact ⟨h, rfl⟩
theorem rest_go (l : List Prod) : ∀ (n f : Nat) (R : List Tok) (b : Nat → Int) (a : Nat), R.length ≤ n → R.length ≤ f →
    match refGo l R b a with
    | .error x => x ≠ 0 ∧ (restF l f ⟨R, 0, b⟩).e = x ∧ (restF l f ⟨R, 0, b⟩).b = zero6
    | .ok (b', R', _) => restF l f ⟨R, 0, b⟩ = ⟨R', 0, b'⟩
  | n, f, [], b, a, _, _ => by
    unfold refGo
    exact ⟨by decide, restF_err elemF_nil (by decide)⟩
  | n, f, t :: R, b, a, hn, hf => by
    unfold refGo
    by_cases hk : t.kind = 1
    · rw [if_neg (by simp [hk])]
      by_cases hf1 : findP l t.text = none
      · rw [if_pos hf1]
        have h2 : elem2 l t.text b = 6 := by unfold elem2; rw [if_pos hf1]
        refine ⟨by decide, restF_err ?_ (by decide)⟩
        rw [elemF_cons hk, elemR_err (by rw [h2]; decide), h2]
      · rw [if_neg hf1]
        by_cases hb : b (findK l t.text) = 0
        · rw [if_neg (by simp [hb])]
          have h2 : elem2 l t.text b = 0 := by unfold elem2; rw [if_neg hf1, if_neg (by simp [hb])]
          have hE : elemF l ⟨t :: R, 0, b⟩ = elemR R 0 (findK l t.text) b := by rw [elemF_cons hk, h2]
          match R, hn, hf with
          | [], _, _ =>
            refine ⟨by decide, restF_err ?_ (by decide)⟩
            rw [hE]
            unfold elemR
            dsimp only
            rw [exp_nil]
            exact err_amt (by decide)
          | t1 :: R1, hn, hf =>
            dsimp only
            cases hc : isM t1 ⟨#[58]⟩ with
            | false =>
              rw [if_pos rfl]
              refine ⟨by decide, restF_err ?_ (by decide)⟩
              rw [hE]
              unfold elemR
              dsimp only
              rw [exp_no hc]
              exact err_amt (by decide)
            | true =>
              rw [if_neg (by simp)]
              rw [elemR_colon hc] at hE
              match R1, hn, hf with
              | [], _, _ =>
                refine ⟨by decide, restF_err ?_ (by decide)⟩
                rw [hE]
                exact amt_nil
              | t2 :: R2, hn, hf =>
                dsimp only
                by_cases h2k : t2.kind = 2
                · rw [if_neg (by simp [h2k])]
                  by_cases hv : 1 ≤ t2.value ∧ t2.value ≤ 4
                  · rw [if_neg (by simp [hv])]
                    obtain ⟨g1, g2, g3⟩ := amt_good (R := R2) h2k hv.1 hv.2
                    rw [g1, g2, g3] at hE
                    match R2, hn, hf with
                    | [], _, _ =>
                      refine ⟨by decide, ?_⟩
                      unfold restF
                      have hl : ∀ f, loopF l f ⟨[], 0, upd b (findK l t.text) t2.value⟩ = ⟨[], 0, upd b (findK l t.text) t2.value⟩ := by
                        intro f
                        cases f with
                        | zero => rfl
                        | succ f => unfold loopF; rw [if_neg (accB_nil _)]
                      rw [hE, hl]
                      unfold endF
                      dsimp only
                      rw [exp_nil]
                      exact ⟨rfl, rfl⟩
                    | t3 :: R3, hn, hf =>
                      dsimp only
                      obtain ⟨f', rfl⟩ : ∃ f', f = f' + 1 := ⟨f - 1, by simp at hf; omega⟩
                      cases hcm : isM t3 ⟨#[44]⟩ with
                      | true =>
                        have hcb : isM t3 ⟨#[125]⟩ = false := by
                          unfold isM at hcm ⊢
                          simp only [Bool.and_eq_true, eqB_iff] at hcm
                          rw [hcm.2]
                          simp [show eqB (⟨#[44]⟩ : ByteArray) ⟨#[125]⟩ = false by decide +kernel]
                        rw [if_neg (by simp [hcb]), if_pos rfl]
                        have hl : restF l (f' + 1) ⟨t :: t1 :: t2 :: t3 :: R3, 0, b⟩ = restF l f' ⟨R3, 0, upd b (findK l t.text) t2.value⟩ := by
                          unfold restF
                          rw [hE]
                          conv => lhs; unfold loopF
                          rw [if_pos ((accB_cons _ _ _).2 hcm)]
                          rfl
                        rw [hl]
                        simp at hn hf
                        have hn' : n - 1 < n := by omega
                        exact rest_go l (n - 1) f' R3 _ _ (by omega) (by omega)
                      | false =>
                        have hl : loopF l (f' + 1) ⟨t3 :: R3, 0, upd b (findK l t.text) t2.value⟩ = ⟨t3 :: R3, 0, upd b (findK l t.text) t2.value⟩ := by
                          unfold loopF
                          rw [if_neg (fun k => by rw [(accB_cons _ _ _).1 k] at hcm; cases hcm)]
                        cases hcb : isM t3 ⟨#[125]⟩ with
                        | true =>
                          rw [if_pos rfl]
                          dsimp only
                          unfold restF
                          rw [hE, hl]
                          unfold endF
                          dsimp only
                          rw [(exp_yes hcb).1, (exp_yes hcb).2, if_pos rfl]
                        | false =>
                          rw [if_neg (by simp), if_neg (by simp)]
                          refine ⟨by decide, ?_⟩
                          unfold restF
                          rw [hE, hl]
                          unfold endF
                          dsimp only
                          rw [exp_no hcb]
                          exact ⟨rfl, rfl⟩
                  · rw [if_pos hv]
                    refine ⟨by decide, restF_err ?_ (by decide)⟩
                    rw [hE]
                    exact amt_range h2k hv
                · rw [if_pos h2k]
                  refine ⟨by decide, restF_err ?_ (by decide)⟩
                  rw [hE]
                  exact amt_kind h2k
        · rw [if_pos hb]
          have h2 : elem2 l t.text b = 7 := by unfold elem2; rw [if_neg hf1, if_pos hb]
          refine ⟨by decide, restF_err ?_ (by decide)⟩
          rw [elemF_cons hk, elemR_err (by rw [h2]; decide), h2]
    · rw [if_pos hk]
      exact ⟨by decide, restF_err (elemF_bad hk) (by decide)⟩
termination_by n => n
/-- Scan is the reference's Tokens -/
theorem scan_ref (l : List Prod) (L : List Tok) (h : checkE l = 0) :
    match refF l L with
    | .error x => x ≠ 0 ∧ (scanF l L 0).e = x ∧ (scanF l L 0).b = zero6
    | .ok (b', R', _) => scanF l L 0 = ⟨R', 0, b'⟩ := by
  have hs : scanF l L 0 = if accB (expL L 0 ⟨#[123]⟩) (expE L 0 ⟨#[123]⟩) ⟨#[125]⟩ then ⟨nextL (expL L 0 ⟨#[123]⟩) (expE L 0 ⟨#[123]⟩), expE L 0 ⟨#[123]⟩, zero6⟩
      else restF l (L.length + 1) ⟨expL L 0 ⟨#[123]⟩, expE L 0 ⟨#[123]⟩, zero6⟩ := by
    unfold scanF restF
    rw [if_neg (by simp), if_neg (by simp [h])]
  rw [hs]
  clear hs
  cases L with
  | nil =>
    unfold refF
    rw [exp_nil, if_neg (err_acc (by decide) _)]
    exact ⟨by decide, restF_err (elemF_err (by simp)) (by decide)⟩
  | cons t R =>
    unfold refF
    dsimp only
    cases hc : isM t ⟨#[123]⟩ with
    | false =>
      rw [if_pos rfl, exp_no hc, if_neg (err_acc (by decide) _)]
      exact ⟨by decide, restF_err (elemF_err (by simp)) (by decide)⟩
    | true =>
      rw [if_neg (by simp), (exp_yes hc).1, (exp_yes hc).2]
      cases R with
      | nil =>
        rw [if_neg (accB_nil _)]
        exact rest_go l 0 _ [] zero6 1 (by simp) (by simp)
      | cons t1 R1 =>
        cases hcb : isM t1 ⟨#[125]⟩ with
        | true =>
          rw [if_pos ((accB_cons _ _ _).2 hcb)]
          dsimp only
          rw [hcb, if_pos rfl]
          rfl
        | false =>
          rw [if_neg (fun k => by rw [(accB_cons _ _ _).1 k] at hcb; cases hcb)]
          dsimp only
          rw [hcb, if_neg (by simp)]
          exact rest_go l _ _ (t1 :: R1) zero6 1 (Nat.le_refl _) (by simp)
end Cat
end Go.Proofs.YthehchdonmmpaaaDoor
namespace Go.Proofs.YthehchdonmmpaaaDoor
open Go.ChangeShapes Go.WideShapes Go.ChangeAt Go.RowKit
set_option linter.unusedVariables false
set_option linter.unusedSimpArgs false
open Cat (arr arr_set)
theorem Blk.box {w : World} {b : Nat} {T : TypeId} {p : Nat → Int} (h : Blk w b T (arr p)) : Cat.Box w b p := ⟨T, h⟩
theorem Lex.Scan.put_far {ts te tb : TypeId} {w : World} {g x : Nat} {L : List Lex.Tok} {e : Int} {cs : Array Value} (h : Lex.Scan ts te w g L e) (hb : Blk w x tb cs) (h1 : tb ≠ ts) (h2 : tb ≠ te) (k : Nat) (v : Value) : Lex.Scan ts te (w.setCell ⟨x, k, none⟩ v) g L e :=
  h.other ((Only.refl x w).put k v) hb h1 h2
/-- six stores into a block -/
abbrev put6 (w : World) (x : Nat) (q : Nat → Int) : World := (((((w.setCell ⟨x, 0, none⟩ (.int .i64 (q 0))).setCell ⟨x, 1, none⟩ (.int .i64 (q 1))).setCell ⟨x, 2, none⟩ (.int .i64 (q 2))).setCell ⟨x, 3, none⟩ (.int .i64 (q 3))).setCell ⟨x, 4, none⟩ (.int .i64 (q 4))).setCell ⟨x, 5, none⟩ (.int .i64 (q 5))
theorem Lex.Scan.six {ts te tb : TypeId} {w : World} {g x : Nat} {L : List Lex.Tok} {e : Int} {cs : Array Value} (h : Lex.Scan ts te w g L e) (hb : Blk w x tb cs) (h1 : tb ≠ ts) (h2 : tb ≠ te) (q : Nat → Int) : Lex.Scan ts te (put6 w x q) g L e :=
  (((((h.put_far hb h1 h2 0 _).put_far (hb.put 0 _) h1 h2 1 _).put_far ((hb.put 0 _).put 1 _) h1 h2 2 _).put_far (((hb.put 0 _).put 1 _).put 2 _) h1 h2 3 _).put_far ((((hb.put 0 _).put 1 _).put 2 _).put 3 _) h1 h2 4 _).put_far (((((hb.put 0 _).put 1 _).put 2 _).put 3 _).put 4 _) h1 h2 5 _
theorem Only.six {w wx : World} {g x : Nat} (h : Only g w wx) (hx : w.heap.size ≤ x) (q : Nat → Int) : Only g w (put6 wx x q) :=
  (((((h.put_new (p := ⟨x, 0, none⟩) hx _).put_new (p := ⟨x, 1, none⟩) hx _).put_new (p := ⟨x, 2, none⟩) hx _).put_new (p := ⟨x, 3, none⟩) hx _).put_new (p := ⟨x, 4, none⟩) hx _).put_new (p := ⟨x, 5, none⟩) hx _
theorem Blk.put6_ {w : World} {b x : Nat} {T : TypeId} {cs : Array Value} (h : Blk w b T cs) (hne : b ≠ x) (q : Nat → Int) : Blk (put6 w x q) b T cs :=
  (((((h.far hne _).far hne _).far hne _).far hne _).far hne _).far hne _
theorem Blk.put6s {w : World} {x : Nat} {T : TypeId} {p : Nat → Int} (h : Blk w x T (arr p)) (q : Nat → Int) : Blk (put6 w x q) x T (arr q) :=
  (((((h.put 0 _).put 1 _).put 2 _).put 3 _).put 4 _).put 5 _
theorem Blk.upd {w : World} {b : Nat} {T : TypeId} {p : Nat → Int} (h : Blk w b T (arr p)) (k : Nat) (hk : k < 6) (x : Int) : Blk (w.setCell ⟨b, k, none⟩ (.int .i64 x)) b T (arr (Cat.upd p k x)) := by
  have := h.put k (.int .i64 x)
  rw [arr_set p k hk] at this
  exact this
namespace Cat
open Lex
theorem Box.only {w w1 : World} {b g : Nat} {p : Nat → Int} (h : Box w b p) (o : Only g w w1) (hne : b ≠ g) : Box w1 b p := by
  obtain ⟨T, k⟩ := h.blk
  exact ⟨T, (o.block b h.lt hne).trans k⟩
theorem only_cell {g : Nat} {w w1 : World} (o : Only g w w1) {a : Addr} (hlt : a.block < w.heap.size) (hne : a.block ≠ g) : w1.cell? a = w.cell? a := World.cell?_of_block (o.block a.block hlt hne)
theorem ProdRow.only {w w' : World} {b o g : Nat} {l : List Prod} (h : ProdRow w b o l) (hb : b < w.heap.size) (hB : Only g w w') (hne : b ≠ g) : ProdRow w' b o l := fun j u hu => by
  rw [only_cell hB (a := ⟨b, o + j, none⟩) hb hne]
  exact h j u hu
theorem nextL_len (L : List Tok) (e : Int) : (nextL L e).length ≤ L.length := by unfold nextL; split <;> simp
theorem nameL_len (L : List Tok) (e : Int) : (nameL L e).length ≤ L.length := by
  unfold nameL
  split
  · exact nextL_len L e
  · exact Nat.le_refl _
theorem expL_len (L : List Tok) (e : Int) (m : ByteArray) : (expL L e m).length ≤ L.length := by
  unfold expL
  split
  · exact nextL_len L e
  · exact Nat.le_refl _
theorem amtL_len (L : List Tok) (e k : Int) : (amtL L e k).length ≤ L.length := by
  unfold amtL
  split
  · exact nextL_len L e
  · exact Nat.le_refl _
theorem elemF_len (l : List Prod) (s : St) : (elemF l s).L.length ≤ s.L.length := by
  unfold elemF
  split
  · exact nameL_len _ _
  · unfold elemR
    exact Nat.le_trans (amtL_len _ _ _) (Nat.le_trans (expL_len _ _ _) (nameL_len _ _))
theorem small_len {n : Nat} (h : n ≤ 5000) : n ≤ maxLen := by unfold maxLen; omega
theorem Box.upd {w : World} {b : Nat} {p : Nat → Int} (h : Box w b p) (k : Nat) (hk : k < 6) (x : Int) : Box (w.setCell ⟨b, k, none⟩ (.int .i64 x)) b (upd p k x) := h.set k hk x
/-- the scanner's block, the two blocks of the call's own -/
structure EMid (ts te tb : TypeId) (w wx : World) (g : Nat) (L : List Tok) (e : Int) (b : Nat → Int) : Prop where
  scan : Scan ts te wx g L e
  box : Blk wx w.heap.size tb (arr b)
  res : Blk wx (w.heap.size + 1) tb (arr zero6)
  only : Only g w wx
section
variable {ts te tb : TypeId} {w wx wy : World} {g : Nat} {L L' : List Tok} {e e' : Int} {b : Nat → Int}
theorem emid_new (h : Scan ts te w g L e) (b : Nat → Int) (tb : TypeId) : EMid ts te tb w ((w.alloc (.cells (arr b) tb)).alloc (.cells (arr zero6) tb)) g L e b := by
  refine ⟨(h.below (below_new w _)).below (below_new _ _), (Blk.new w tb _).alloc _, ?_, ((Only.refl g w).alloc _).alloc _⟩
  have := Blk.new (w.alloc (.cells (arr b) tb)) tb (arr zero6)
  simpa only [World.size_alloc] using this
theorem EMid.step (h : EMid ts te tb w wx g L e b) (hg : g < w.heap.size) (s : Scan ts te wy g L' e') (o : Only g wx wy) : EMid ts te tb w wy g L' e' b :=
  ⟨s, h.box.only o (by omega), h.res.only o (by omega), h.only.trans o⟩
theorem EMid.below (h : EMid ts te tb w wx g L e b) (o : Below wx.heap.size wx wy) : EMid ts te tb w wy g L e b :=
  ⟨h.scan.below o, h.box.below o h.box.lt, h.res.below o h.res.lt, h.only.then_below o⟩
theorem EMid.upd (h : EMid ts te tb w wx g L e b) (h1 : tb ≠ ts) (h2 : tb ≠ te) (k : Nat) (hk : k < 6) (x : Int) : EMid ts te tb w (wx.setCell ⟨w.heap.size, k, none⟩ (.int .i64 x)) g L e (upd b k x) :=
  ⟨h.scan.put_far h.box h1 h2 k _, h.box.upd k hk x, h.res.far (by show w.heap.size + 1 ≠ w.heap.size; omega) _, h.only.put_new (p := ⟨w.heap.size, k, none⟩) (Nat.le_refl _) _⟩
theorem EMid.done (h : EMid ts te tb w wx g L e b) (h1 : tb ≠ ts) (h2 : tb ≠ te) (q : Nat → Int) : Scan ts te (put6 wx (w.heap.size + 1) q) g L e ∧ Only g w (put6 wx (w.heap.size + 1) q) :=
  ⟨h.scan.six h.res h1 h2 q, h.only.six (by omega) q⟩
end
/- from here on printed by gen_catL.py -/
end Cat
end Go.Proofs.YthehchdonmmpaaaDoor
namespace Go.Proofs.YthehchdonmmpaaaDoor
open Go.ChangeShapes Go.WideShapes Go.ChangeAt Go.RowKit
set_option linter.unusedVariables false
set_option linter.unusedSimpArgs false
theorem Lex.Scan.only_apart {ts te tb : TypeId} {w wy : World} {g x : Nat} {L : List Lex.Tok} {e : Int} (h : Lex.Scan ts te w g L e) (o : Only x w wy) {cs : Array Value} (hb : Blk w x tb cs) (h1 : tb ≠ ts) (h2 : tb ≠ te) : Lex.Scan ts te wy g L e := h.other o hb h1 h2
namespace Cat
open Lex
abbrev put6z (w : World) (x : Nat) : World := (((((w.setCell ⟨x, 0, none⟩ (.int .i64 0)).setCell ⟨x, 1, none⟩ (.int .i64 0)).setCell ⟨x, 2, none⟩ (.int .i64 0)).setCell ⟨x, 3, none⟩ (.int .i64 0)).setCell ⟨x, 4, none⟩ (.int .i64 0)).setCell ⟨x, 5, none⟩ (.int .i64 0)
theorem res_end0 {w : World} {b : Nat} {p : Nat → Int} (h : Box w b p) : Box (put6z w b) b zero6 := res_end h zero6
/-- the scanner, the result's block, the bundle's block -/
structure SMid2 (ts te tb : TypeId) (w wx : World) (g x : Nat) (s : St) : Prop where
  scan : Scan ts te wx g s.L s.e
  res : Blk wx w.heap.size tb (arr zero6)
  box : Blk wx x tb (arr s.b)
  new : w.heap.size < x
  only : Only g w wx
section
variable {ts te tb : TypeId} {w wx wy : World} {g x : Nat} {s s' : St} {L : List Tok} {e : Int}
theorem SMid2.step (h : SMid2 ts te tb w wx g x s) (hg : g < w.heap.size) (k : Scan ts te wy g s'.L s'.e) (o : Only g wx wy) (hb : s'.b = s.b) : SMid2 ts te tb w wy g x s' := by
  have := h.new
  exact ⟨k, h.res.only o (by omega), by rw [hb]; exact h.box.only o (by omega), h.new, h.only.trans o⟩
theorem SMid2.put (h : SMid2 ts te tb w wx g x s) (h1 : tb ≠ ts) (h2 : tb ≠ te) (q : Nat → Int) : SMid2 ts te tb w (put6 wx x q) g x ⟨s.L, s.e, q⟩ := by
  have := h.new
  exact ⟨h.scan.six h.box h1 h2 q, h.res.put6_ (by omega) q, h.box.put6s q, h.new, h.only.six (by omega) q⟩
theorem SMid2.done (h : SMid2 ts te tb w wx g x s) (h1 : tb ≠ ts) (h2 : tb ≠ te) (q : Nat → Int) : Scan ts te (put6 wx w.heap.size q) g s.L s.e ∧ Only g w (put6 wx w.heap.size q) :=
  ⟨h.scan.six h.res h1 h2 q, h.only.six (Nat.le_refl _) q⟩
theorem SMid2.done0 (h : SMid2 ts te tb w wx g x s) (h1 : tb ≠ ts) (h2 : tb ≠ te) : Scan ts te (put6z wx w.heap.size) g s.L s.e ∧ Only g w (put6z wx w.heap.size) := h.done h1 h2 zero6
/-- the scanner and the result's block -/
structure SMid1 (ts te tb : TypeId) (w wx : World) (g : Nat) (L : List Tok) (e : Int) : Prop where
  scan : Scan ts te wx g L e
  res : Blk wx w.heap.size tb (arr zero6)
  only : Only g w wx
theorem smid1_new (h : Scan ts te w g L e) (tb : TypeId) : SMid1 ts te tb w (w.alloc (.cells (arr zero6) tb)) g L e :=
  ⟨h.below (below_new w _), Blk.new w tb _, (Only.refl g w).alloc _⟩
theorem SMid1.step {L' : List Tok} {e' : Int} (h : SMid1 ts te tb w wx g L e) (hg : g < w.heap.size) (k : Scan ts te wy g L' e') (o : Only g wx wy) : SMid1 ts te tb w wy g L' e' :=
  ⟨k, h.res.only o (by omega), h.only.trans o⟩
theorem SMid1.below (h : SMid1 ts te tb w wx g L e) (o : Below wx.heap.size wx wy) : SMid1 ts te tb w wy g L e :=
  ⟨h.scan.below o, h.res.below o h.res.lt, h.only.then_below o⟩
theorem SMid1.done (h : SMid1 ts te tb w wx g L e) (h1 : tb ≠ ts) (h2 : tb ≠ te) (q : Nat → Int) : Scan ts te (put6 wx w.heap.size q) g L e ∧ Only g w (put6 wx w.heap.size q) :=
  ⟨h.scan.six h.res h1 h2 q, h.only.six (Nat.le_refl _) q⟩
theorem SMid1.done0 (h : SMid1 ts te tb w wx g L e) (h1 : tb ≠ ts) (h2 : tb ≠ te) : Scan ts te (put6z wx w.heap.size) g L e ∧ Only g w (put6z wx w.heap.size) := h.done h1 h2 zero6
theorem SMid1.two (h : SMid1 ts te tb w wx g L e) : SMid2 ts te tb w (wx.alloc (.cells (arr zero6) tb)) g wx.heap.size ⟨L, e, zero6⟩ :=
  ⟨h.scan.below (below_new _ _), h.res.alloc _, Blk.new wx tb _, h.res.lt, h.only.alloc _⟩
end
theorem acc_next {L : List Tok} {e : Int} {m : ByteArray} (h : accB L e m) : (nextL L e).length < L.length := by
  by_cases he : e = 0
  · subst he
    cases L with
    | nil => exact absurd h (accB_nil m)
    | cons t L => simp [nextL]
  · exact absurd h (err_acc he m)
end Cat
end Go.Proofs.YthehchdonmmpaaaDoor
