/- Contracts of (units).sum. Printed by gen_catE.py. Plain laws on slices whose elements take several cells each, over any program. Plain: what Scan of the catalog computes, and that it is what the reference's Tokens computes. -/
import Derived.Test.YtfopmaeaclbknaaDoorPk18
import Derived.Test.YtfopmaeaclbknaaDoorPk00
import Derived.OwnWalk
import Derived.Test.YtfopmaeaclbknaaDoorPk15
namespace Go.Proofs.YtfopmaeaclbknaaDoor
open Go.ChangeShapes Go.WideShapes Go.ChangeAt Go.RowKit
set_option linter.unusedVariables false
set_option linter.unusedSimpArgs false
namespace Cat
open Lex
theorem Blk.c7 {w : World} {g : Nat} {t : TypeId} {a b c d e f h : Value} (k : Blk w g t #[a, b, c, d, e, f, h]) :
    w.cell? ⟨g, 0, none⟩ = some a ∧ w.cell? ⟨g, 1, none⟩ = some b ∧ w.cell? ⟨g, 2, none⟩ = some c ∧ w.cell? ⟨g, 3, none⟩ = some d ∧ w.cell? ⟨g, 4, none⟩ = some e ∧ w.cell? ⟨g, 5, none⟩ = some f ∧ w.cell? ⟨g, 6, none⟩ = some h :=
  ⟨k.cell 0, k.cell 1, k.cell 2, k.cell 3, k.cell 4, k.cell 5, k.cell 6⟩
theorem units_cell {w : World} {g : Nat} {t : TypeId} {a : Value} {b : Nat → Int} (h : Blk w g t #[a, .int .i64 (b 0), .int .i64 (b 1), .int .i64 (b 2), .int .i64 (b 3), .int .i64 (b 4), .int .i64 (b 5)]) (k : Nat) (hk : k < 6) : w.cell? ⟨g, 1 + k, none⟩ = some (.int .i64 (b k)) := by
  rw [h.cell (1 + k)]
  obtain h | h | h | h | h | h : k = 0 ∨ k = 1 ∨ k = 2 ∨ k = 3 ∨ k = 4 ∨ k = 5 := by omega
  all_goals subst h; rfl
theorem sum_bad (l : List Prod) (A : Option Addr) (c : Nat) (b : Nat → Int) (fv : Value) (w : World) (hl : l.length ≤ 5000) (h : PS w (.slice A l.length c) l) (hn : ∀ p ∈ l, p.name.size ≤ maxLen) (hz : checkE l ≠ 0) :
    Calls Tryd.prog 115 #[.agg #[.slice A l.length c, .int .i64 (b 0), .int .i64 (b 1), .int .i64 (b 2), .int .i64 (b 3), .int .i64 (b 4), .int .i64 (b 5)], fv] w fun e w' => e = .returned (.int .i64 0) ∧ Below w.heap.size w w' := by
  have CC := Lib.hid (fun w' (k : Below w.heap.size w w') => check_any l (.slice A l.length c) w' hl (Sl.keep h k) hn)
  have hz2 : (checkE l != 0) = true := by simpa using hz
  clear h hn hz
  go_enter Tryd.func115, Tryd.ntmps115
  go_wp2_with fail
  refine (CC.out _ (below_new _ _)).mono ?_
  rintro e w1 ⟨rfl, b1⟩
  have B1 := Lib.hid (chain1 (Below.refl _ _) b1)
  clear b1
  go_wp2_with fail
  go_ret
  exact ⟨rfl, B1.out⟩
theorem sum_bad2 (l : List Prod) (A : Option Addr) (c : Nat) (b : Nat → Int) (fv : Value) (w : World) (hl : l.length ≤ 5000) (h : PS w (.slice A l.length c) l) (hn : ∀ p ∈ l, p.name.size ≤ maxLen) (hz : checkE l = 0) (hv : validB b = false) :
    Calls Tryd.prog 115 #[.agg #[.slice A l.length c, .int .i64 (b 0), .int .i64 (b 1), .int .i64 (b 2), .int .i64 (b 3), .int .i64 (b 4), .int .i64 (b 5)], fv] w fun e w' => e = .returned (.int .i64 0) ∧ Below w.heap.size w w' := by
  have CC := Lib.hid (fun w' (k : Below w.heap.size w w') => check_any l (.slice A l.length c) w' hl (Sl.keep h k) hn)
  have CB := Lib.hid (fun w => bcheck_no b w hv)
  have hz2 : (checkE l != 0) = false := by simpa using hz
  have HK := Lib.hid (fun w1 (k : Below (w.alloc (.cells #[.slice A l.length c, .int .i64 (b 0), .int .i64 (b 1), .int .i64 (b 2), .int .i64 (b 3), .int .i64 (b 4), .int .i64 (b 5)] 167)).heap.size (w.alloc (.cells #[.slice A l.length c, .int .i64 (b 0), .int .i64 (b 1), .int .i64 (b 2), .int .i64 (b 3), .int .i64 (b 4), .int .i64 (b 5)] 167)) w1) => (Blk.new w 167 #[.slice A l.length c, .int .i64 (b 0), .int .i64 (b 1), .int .i64 (b 2), .int .i64 (b 3), .int .i64 (b 4), .int .i64 (b 5)]).below' k)
  clear h hn hz hv
  unfold arr at CB
  go_enter Tryd.func115, Tryd.ntmps115
  go_wp2_with fail
  refine (CC.out _ (below_new _ _)).mono ?_
  rintro e w1 ⟨rfl, b1⟩
  have k1 := (HK.out _ b1)
  have c1 := Blk.c7 k1
  have g1 := k1.lt
  have B1 := Lib.hid (chain1 (Below.refl _ _) b1)
  clear b1 k1
  go_wp2_with fail
  refine (CB.out _).mono ?_
  rintro e w2 ⟨rfl, b2⟩
  have B2 := Lib.hid (chain0 B1.out b2)
  clear b2
  go_wp2_with fail
  go_ret
  exact ⟨rfl, B2.out⟩
set_option maxHeartbeats 800000 in
theorem sum_reserve (l : List Prod) (b1 o1 c : Nat) (b : Nat → Int) (w : World) (hc : l.length ≤ c) (hm : c ≤ maxLen) (h1 : ProdRow w b1 o1 l) (hn : ∀ p ∈ l, p.name.size ≤ maxLen) (hz : checkE l = 0) (hv : validB b = true) :
    Calls Tryd.prog 115 #[.agg #[.slice (some ⟨b1, o1, none⟩) l.length c, .int .i64 (b 0), .int .i64 (b 1), .int .i64 (b 2), .int .i64 (b 3), .int .i64 (b 4), .int .i64 (b 5)], .func (.func 116) #[] #[]] w fun e w' => e = .returned (.int .i64 (sw Prod.reserve b l l.length)) ∧ Below w.heap.size w w' := by
  obtain ⟨h0, h6, hg⟩ := checkE_zero hz
  have hb1 : b1 < w.heap.size := block_lt_of_cell (h1.at_ 0 h0).1
  have HR := Lib.hid fun w' => h1.below (w' := w') hb1
  have CC := Lib.hid (fun w' (k : Below w.heap.size w w') => check_some l b1 o1 c w' h6 h0 hc hm (HR.out w' k) hn)
  have CB := Lib.hid (fun w => bcheck_yes b w hv)
  have hz2 : (checkE l != 0) = false := by simpa using hz
  have HK := Lib.hid (fun w1 (k : Below (w.alloc (.cells #[.slice (some ⟨b1, o1, none⟩) l.length c, .int .i64 (b 0), .int .i64 (b 1), .int .i64 (b 2), .int .i64 (b 3), .int .i64 (b 4), .int .i64 (b 5)] 167)).heap.size (w.alloc (.cells #[.slice (some ⟨b1, o1, none⟩) l.length c, .int .i64 (b 0), .int .i64 (b 1), .int .i64 (b 2), .int .i64 (b 3), .int .i64 (b 4), .int .i64 (b 5)] 167)) w1) => (Blk.new w 167 #[.slice (some ⟨b1, o1, none⟩) l.length c, .int .i64 (b 0), .int .i64 (b 1), .int .i64 (b 2), .int .i64 (b 3), .int .i64 (b 4), .int .i64 (b 5)]).below' k)
  have HV := Lib.hid (validB_iff.1 hv)
  have HP := Lib.hid (fun p hp => rangeOk_iff.1 (checkGo_range l 0 hg p hp).1)
  have HS := Lib.hid (sw_le (f := Prod.reserve) (b := b) (l := l) (validB_iff.1 hv) (fun p hp => (by have := rangeOk_iff.1 (checkGo_range l 0 hg p hp).1; omega)) h6)
  have HU : Hid (∀ k, sw Prod.reserve b l (k + 1) = sw Prod.reserve b l k + b k * Prod.reserve (l.getD k Prod.none)) := fun _ => rfl
  clear h1 hn hz hv hg
  unfold arr at CB
  unfold maxLen at hm
  go_enter Tryd.func115, Tryd.ntmps115
  go_wp2_with fail
  refine (CC.out _ (below_new _ _)).mono ?_
  rintro e w1 ⟨rfl, d1⟩
  have K1 := Lib.hid (HK.out _ d1)
  have c1 := Blk.c7 K1.out
  have g1 := K1.out.lt
  have B1 := Lib.hid (chain1 (Below.refl _ _) d1)
  clear d1
  go_wp2_with fail
  refine (CB.out _).mono ?_
  rintro e w2 ⟨rfl, d2⟩
  have B2 := Lib.hid (chain0 B1.out d2)
  have K2 := Lib.hid (K1.out.below' d2)
  have c2 := Blk.c7 K2.out
  have g2 := K2.out.lt
  clear d2 c1 g1
  go_wp2_with fail
  go_loopw [21, 5] (fun i n wr => ∃ k : Nat, k ≤ l.length ∧ i = .int .i64 (k : Int) ∧ n = .int .i64 (sw Prod.reserve b l k) ∧ Hid (Blk wr w.heap.size 167 #[.slice (some ⟨b1, o1, none⟩) l.length c, .int .i64 (b 0), .int .i64 (b 1), .int .i64 (b 2), .int .i64 (b 3), .int .i64 (b 4), .int .i64 (b 5)]) ∧ Hid (Below w.heap.size w wr)) (fun i _ _ => l.length - (intOf i).toNat)
  case atStart => exact ⟨0, by omega, rfl, rfl, K2.out, B2.out⟩
  case round =>
    obtain ⟨k, hk, rfl, rfl, K, B⟩ := hrel
    clear c2 g2
    by_cases hlt : k < l.length
    · have hd : decide ((k : Int) < (l.length : Int)) = true := by simp; omega
      have hi0 : (0 : Int) ≤ (k : Int) := by omega
      have hk6 : k < 6 := by omega
      have et := (HR.out _ B.out).at_ k hlt
      have hbr : b1 < wr.heap.size := by have := B.out.size; omega
      have hbk : wr.cell? ⟨w.heap.size, 1 + k, none⟩ = some (.int .i64 (b k)) := by
        exact units_cell K.out k hk6
      have h6k : (k : Int) < 6 := by omega
      have gz := K.out.lt
      have hs1 := HS.out k (by omega)
      have hs2 := HS.out (k + 1) (by omega)
      have hst := HU.out k
      rw [getD_prod l k hlt] at hst
      have hp := HP.out l[k] (List.getElem_mem hlt)
      have hbb := HV.out k hk6
      have wr0 : ∀ q : Int, -1000000000 ≤ q → q ≤ 1000000000 → IntKind.i64.wrap q = q := fun q _ _ => IntWalk.i64_in q (by omega)
      have wr1 := wr0 (sw Prod.reserve b l (k + 1)) (by omega) (by omega)
      have wr2 := wr0 (b k * Prod.reserve l[k]) (by omega) (by omega)
      rw [hst] at wr1
      have HST := Lib.hid hst
      clear wr0 hs1 hs2 hst hp hbb
      generalize l[k] = p at *
      generalize sw Prod.reserve b l k = sk at *
      have KP := Lib.hid (Blk.new wr 108 #[.string p.name, .int .i64 p.supply, .int .i64 p.reserve, .int .i64 p.points, .int .i64 p.group])
      go_wp2_with fail
      go_region_held3 (fun w' => w'.cell? ⟨w.heap.size, 1 + k, none⟩ = some (.int .i64 (b k)) ∧ w'.cell? ⟨wr.heap.size, 0, none⟩ = some (.string p.name) ∧ w'.cell? ⟨wr.heap.size, 1, none⟩ = some (.int .i64 p.supply) ∧ w'.cell? ⟨wr.heap.size, 2, none⟩ = some (.int .i64 p.reserve) ∧ w'.cell? ⟨wr.heap.size, 3, none⟩ = some (.int .i64 p.points) ∧ w'.cell? ⟨wr.heap.size, 4, none⟩ = some (.int .i64 p.group)) (go_keep) ((go_at_call 116; refine (reserve1_any p _).mono ?_; rintro e w3 ⟨rfl, d3⟩; have B3 := Lib.hid (chain0 ((B.out.alloc B.out.size _).trans (Below.refl _ _).drew) d3); have K3 := Lib.hid ((K.out.alloc _).drew.below' d3); have hb3 := units_cell K3.out k hk6; have e3 := (KP.out.drew.below' d3).c5; clear d3))
      go_wp2_with fail
      go_roundw
      case rel => exact ⟨k + 1, by omega, by go_num, by rw [HST.out], K3.out, B3.out⟩
      case measure => simp [intOf]; omega
    · obtain rfl : k = l.length := by omega
      have hd : decide ((l.length : Int) < (l.length : Int)) = false := by simp
      go_wp2_with fail
      go_ret
      exact ⟨rfl, B.out⟩
end Cat
end Go.Proofs.YtfopmaeaclbknaaDoor
namespace Go.Proofs.YtfopmaeaclbknaaDoor.Gn
open Go.ChangeShapes Go.WideShapes Go.ChangeAt Go.RowKit
section
variable {T : Type} {K : Nat} {c : T → List Value}
theorem flat_len (hc : ∀ t, (c t).length = K) : ∀ L : List T, (L.flatMap c).length = L.length * K
  | [] => by simp
  | t :: L => by
    rw [List.flatMap_cons, List.length_append, hc, flat_len hc L, List.length_cons, Nat.succ_mul, Nat.add_comm]
theorem flat_get (hc : ∀ t, (c t).length = K) : ∀ (L : List T) (i r : Nat) (hi : i < L.length), r < K → (L.flatMap c)[i * K + r]? = (c L[i])[r]?
  | t :: L, 0, r, hi, hr => by
    rw [List.flatMap_cons, Nat.zero_mul, Nat.zero_add, List.getElem?_append_left (by rw [hc]; exact hr)]
    rfl
  | t :: L, i + 1, r, hi, hr => by
    have hi' : i < L.length := by simpa using hi
    rw [List.flatMap_cons, List.getElem?_append_right (by rw [hc, Nat.succ_mul]; omega), hc]
    have e : (i + 1) * K + r - K = i * K + r := by rw [Nat.succ_mul]; omega
    rw [e, flat_get hc L i r hi' hr]
    rfl
theorem flat_take (L : List T) (k : Nat) (hk : k < L.length) : (L.take (k + 1)).flatMap c = (L.take k).flatMap c ++ c L[k] := by
  rw [List.take_succ_eq_append_getElem hk, List.flatMap_append, List.flatMap_cons, List.flatMap_nil, List.append_nil]
theorem flat_one (h1 : ∀ t : T, ∀ u ∈ c t, u.oneCell' = true) (L : List T) : ∀ u ∈ L.flatMap c, u.oneCell' = true := by
  intro u hu
  obtain ⟨x, _, hx⟩ := List.mem_flatMap.1 hu
  exact h1 x u hx
end
/-- a row of cells in memory -/
def Row (w : World) (b o : Nat) (xs : List Value) : Prop := ∀ (j : Nat) (u : Value), xs[j]? = some u → w.cell? ⟨b, o + j, none⟩ = some u
theorem Row.below {w w' : World} {b o : Nat} {xs : List Value} (h : Row w b o xs) (hb : b < w.heap.size) (hB : Below w.heap.size w w') : Row w' b o xs := fun j u hu => by
  rw [hB.cell (p := ⟨b, _, none⟩) hb]
  exact h j u hu
theorem Row.elem {w : World} {b o : Nat} {T : Type} {K : Nat} {c : T → List Value} {L : List T} (h : Row w b o (L.flatMap c)) (hc : ∀ t, (c t).length = K) (i : Nat) (hi : i < L.length) (r : Nat) (hr : r < K) (u : Value) (hu : (c L[i])[r]? = some u) : w.cell? ⟨b, o + i * K + r, none⟩ = some u := by
  have := h (i * K + r) u (by rw [flat_get hc L i r hi hr]; exact hu)
  rw [Nat.add_assoc]
  exact this
theorem Row.elem0 {w : World} {b o : Nat} {T : Type} {K : Nat} {c : T → List Value} {L : List T} (h : Row w b o (L.flatMap c)) (hc : ∀ t, (c t).length = K) (i : Nat) (hi : i < L.length) (hr : 0 < K) (u : Value) (hu : (c L[i])[0]? = some u) : w.cell? ⟨b, o + i * K, none⟩ = some u := by
  have := h.elem hc i hi 0 hr u hu
  simpa using this
theorem sl_parts {w : World} {K n : Nat} {v : Value} {xs : List Value} (h : Sl w K v n xs) : ∃ A cap, v = .slice A n cap ∧ n ≤ cap ∧ cap ≤ maxLen ∧ (0 < n → ∃ b o, A = some ⟨b, o, none⟩ ∧ b < w.heap.size ∧ Row w b o xs) := by
  obtain ⟨_, A, cap, h1, h2, h3, h4⟩ := h
  exact ⟨A, cap, h1, h2, h3, h4⟩
theorem own_form {w : World} {base : Nat} {e : TypeId} {size n : Nat} {v : Value} {xs : List Value} (h : w.ownsRow base e size v n xs) : ∃ A c, v = .slice A n c := by
  rcases h.2 with ⟨rfl, rfl⟩ | ⟨g, cap, cur, rfl, _⟩
  · exact ⟨none, 0, rfl⟩
  · exact ⟨_, cap, rfl⟩
theorem cells_new (w : World) (cs : List Value) (t : TypeId) : ∀ j u, cs[j]? = some u → (w.alloc (.cells cs.toArray t)).cell? ((⟨w.heap.size, 0, none⟩ : Addr).add j) = some u := by
  intro j u hu
  rw [OpenAdd.add_at, (Blk.new w t cs.toArray).cell]
  simpa using hu
end Go.Proofs.YtfopmaeaclbknaaDoor.Gn
namespace Go.Proofs.YtfopmaeaclbknaaDoor
open Go.ChangeShapes Go.WideShapes Go.ChangeAt Go.RowKit
set_option linter.unusedVariables false
set_option linter.unusedSimpArgs false
namespace Cat
open Lex
structure St where
  L : List Tok
  e : Int
  b : Nat → Int
def findK (l : List Prod) (name : ByteArray) : Nat := (findP l name).getD 0
def elem2 (l : List Prod) (name : ByteArray) (b : Nat → Int) : Int := if findP l name = none then 6 else if b (findK l name) ≠ 0 then 7 else 0
def amt5 (L : List Tok) (e : Int) : Int := if amtV L e 4 = 0 then failE (amtE L e 4) 4 else amtE L e 4
/-- an element's rest, behind its name -/
noncomputable def elemR (L : List Tok) (e : Int) (k : Nat) (b : Nat → Int) : St :=
  ⟨amtL (expL L e ⟨#[58]⟩) (expE L e ⟨#[58]⟩) 4, amt5 (expL L e ⟨#[58]⟩) (expE L e ⟨#[58]⟩), upd b k (amtV (expL L e ⟨#[58]⟩) (expE L e ⟨#[58]⟩) 4)⟩
noncomputable def elemF (l : List Prod) (s : St) : St :=
  if nameE s.L s.e ≠ 0 then ⟨nameL s.L s.e, nameE s.L s.e, s.b⟩
  else elemR (nameL s.L s.e) (elem2 l (nameT s.L s.e) s.b) (findK l (nameT s.L s.e)) s.b
instance (L : List Tok) (e : Int) (m : ByteArray) : Decidable (accB L e m) := inferInstanceAs (Decidable (_ ∧ _))
noncomputable def loopF (l : List Prod) : Nat → St → St
  | 0, s => s
  | f + 1, s => if accB s.L s.e ⟨#[44]⟩ then loopF l f (elemF l ⟨nextL s.L s.e, s.e, s.b⟩) else s
noncomputable def endF (s : St) : St := ⟨expL s.L s.e ⟨#[125]⟩, expE s.L s.e ⟨#[125]⟩, if expE s.L s.e ⟨#[125]⟩ = 0 then s.b else zero6⟩
noncomputable def scanF (l : List Prod) (L : List Tok) (e : Int) : St :=
  if e ≠ 0 then ⟨L, e, zero6⟩
  else if checkE l ≠ 0 then ⟨L, checkE l, zero6⟩
  else if accB (expL L e ⟨#[123]⟩) (expE L e ⟨#[123]⟩) ⟨#[125]⟩ then ⟨nextL (expL L e ⟨#[123]⟩) (expE L e ⟨#[123]⟩), expE L e ⟨#[123]⟩, zero6⟩
  else endF (loopF l (L.length + 1) (elemF l ⟨expL L e ⟨#[123]⟩, expE L e ⟨#[123]⟩, zero6⟩))
/-- what the reference's Tokens computes from the elements on: the bundle, what is left, and how many tokens are behind it -/
def isM (t : Tok) (m : ByteArray) : Bool := t.kind == 3 && eqB t.text m
def refGo (l : List Prod) : List Tok → (Nat → Int) → Nat → Except Int ((Nat → Int) × List Tok × Nat)
  | [], _, _ => .error 1
  | t :: R, b, at_ =>
    if t.kind ≠ 1 then .error 2
    else if findP l t.text = none then .error 6
    else if b (findK l t.text) ≠ 0 then .error 7
    else match R with
      | [] => .error 1
      | t1 :: R1 => if isM t1 ⟨#[58]⟩ = false then .error 2 else match R1 with
        | [] => .error 1
        | t2 :: R2 => if t2.kind ≠ 2 then .error 2 else if ¬ (1 ≤ t2.value ∧ t2.value ≤ 4) then .error 4 else match R2 with
          | [] => .error 1
          | t3 :: R3 => if isM t3 ⟨#[125]⟩ then .ok (upd b (findK l t.text) t2.value, R3, at_ + 4)
            else if isM t3 ⟨#[44]⟩ then refGo l R3 (upd b (findK l t.text) t2.value) (at_ + 4) else .error 2
def refF (l : List Prod) : List Tok → Except Int ((Nat → Int) × List Tok × Nat)
  | [] => .error 1
  | t :: R => if isM t ⟨#[123]⟩ = false then .error 2 else match R with
    | [] => refGo l [] zero6 1
    | t1 :: R1 => if isM t1 ⟨#[125]⟩ then .ok (zero6, R1, 2) else refGo l (t1 :: R1) zero6 1
def toSt (L : List Tok) : Except Int ((Nat → Int) × List Tok × Nat) → Int × (Nat → Int)
  | .error x => (x, zero6)
  | .ok (b, _, _) => (0, b)
/-- once there is an error, nothing more happens -/
theorem err_name {L : List Tok} {e : Int} (h : e ≠ 0) : nameE L e = e := by
  unfold nameE peekT wrongE failE
  simp [h, Tok.none]
theorem err_acc {L : List Tok} {e : Int} (h : e ≠ 0) (m : ByteArray) : ¬ accB L e m := by
  unfold accB peekT
  simp [h, Tok.none]
theorem err_exp {L : List Tok} {e : Int} (h : e ≠ 0) (m : ByteArray) : expE L e m = e ∧ expL L e m = L := by
  unfold expE expL
  rw [if_neg (err_acc h m), if_neg (err_acc h m)]
  unfold wrongE failE
  simp [h]
theorem err_amt {L : List Tok} {e : Int} (h : e ≠ 0) : amt5 L e = e := by
  unfold amt5 amtE amtV peekT wrongE failE
  simp [h, Tok.none]
theorem elemF_err {l : List Prod} {s : St} (h : s.e ≠ 0) : (elemF l s).e = s.e := by
  unfold elemF
  rw [if_pos (by rw [err_name h]; exact h)]
  exact err_name h
theorem loopF_err {l : List Prod} {s : St} (h : s.e ≠ 0) (f : Nat) : loopF l f s = s := by
  cases f with
  | zero => rfl
  | succ f => unfold loopF; rw [if_neg (err_acc h _)]
theorem endF_err {s : St} (h : s.e ≠ 0) : (endF s).e = s.e ∧ (endF s).b = zero6 := by
  unfold endF
  dsimp only
  rw [(err_exp h _).1, if_neg h]
  exact ⟨rfl, rfl⟩
theorem elemR_err {L : List Tok} {e : Int} {k : Nat} {b : Nat → Int} (h : e ≠ 0) : (elemR L e k b).e = e := by
  unfold elemR
  dsimp only
  rw [(err_exp h _).1]
  exact err_amt h
/-- the heads of a list without an error -/
theorem accB_cons (t : Tok) (L : List Tok) (m : ByteArray) : accB (t :: L) 0 m ↔ isM t m = true := by
  unfold accB isM peekT
  simp [eqB_iff]
theorem accB_nil (m : ByteArray) : ¬ accB [] 0 m := by
  unfold accB peekT
  simp [Tok.none]
theorem exp_yes {t : Tok} {L : List Tok} {m : ByteArray} (h : isM t m = true) : expL (t :: L) 0 m = L ∧ expE (t :: L) 0 m = 0 := by
  unfold expL expE
  rw [if_pos ((accB_cons t L m).2 h), if_pos ((accB_cons t L m).2 h)]
  exact ⟨rfl, rfl⟩
theorem exp_no {t : Tok} {L : List Tok} {m : ByteArray} (h : isM t m = false) : expE (t :: L) 0 m = 2 := by
  unfold expE
  rw [if_neg (fun k => by rw [(accB_cons t L m).1 k] at h; cases h)]
  rfl
theorem exp_nil (m : ByteArray) : expE [] 0 m = 1 := by
  unfold expE
  rw [if_neg (accB_nil m)]
  rfl
/-- an element that does not fail, and one that does -/
theorem elemF_cons {l : List Prod} {t : Tok} {R : List Tok} {b : Nat → Int} (h : t.kind = 1) : elemF l ⟨t :: R, 0, b⟩ = elemR R (elem2 l t.text b) (findK l t.text) b := by
  have h1 : nameE (t :: R) 0 = 0 := by unfold nameE peekT; simp [h]
  have h2 : nameL (t :: R) 0 = R := by unfold nameL peekT nextL; simp [h]
  have h3 : nameT (t :: R) 0 = t.text := by unfold nameT peekT; simp [h]
  unfold elemF
  dsimp only
  rw [if_neg (by simp [h1]), h2, h3]
theorem elemF_nil {l : List Prod} {b : Nat → Int} : (elemF l ⟨[], 0, b⟩).e = 1 := by
  have h1 : nameE [] 0 = 1 := by unfold nameE peekT wrongE failE; simp [Tok.none]
  unfold elemF
  dsimp only
  rw [if_pos (by rw [h1]; decide)]
  exact h1
theorem elemF_bad {l : List Prod} {t : Tok} {R : List Tok} {b : Nat → Int} (h : t.kind ≠ 1) : (elemF l ⟨t :: R, 0, b⟩).e = 2 := by
  have h1 : nameE (t :: R) 0 = 2 := by unfold nameE peekT wrongE failE; simp [h]
  unfold elemF
  dsimp only
  rw [if_pos (by rw [h1]; decide)]
  exact h1
theorem elemR_colon {t1 : Tok} {R : List Tok} {k : Nat} {b : Nat → Int} (h : isM t1 ⟨#[58]⟩ = true) : elemR (t1 :: R) 0 k b = ⟨amtL R 0 4, amt5 R 0, upd b k (amtV R 0 4)⟩ := by
  unfold elemR
  rw [(exp_yes h).1, (exp_yes h).2]
theorem amt_good {t2 : Tok} {R : List Tok} (h : t2.kind = 2) (h1 : 1 ≤ t2.value) (h4 : t2.value ≤ 4) : amtL (t2 :: R) 0 4 = R ∧ amt5 (t2 :: R) 0 = 0 ∧ amtV (t2 :: R) 0 4 = t2.value := by
  have e : amtV (t2 :: R) 0 4 = t2.value := by unfold amtV peekT; simp [h, h4, show 0 ≤ t2.value by omega]
  refine ⟨by unfold amtL peekT nextL; simp [h, h4, show 0 ≤ t2.value by omega], ?_, e⟩
  unfold amt5
  rw [e, if_neg (by omega)]
  unfold amtE peekT
  simp [h, h4, show 0 ≤ t2.value by omega]
theorem amt_range {t2 : Tok} {R : List Tok} (h : t2.kind = 2) (h1 : ¬ (1 ≤ t2.value ∧ t2.value ≤ 4)) : amt5 (t2 :: R) 0 = 4 := by
  by_cases h0 : 0 ≤ t2.value ∧ t2.value ≤ 4
  · have e0 : t2.value = 0 := by omega
    unfold amt5 amtV amtE peekT failE
    simp [h, e0]
  · unfold amt5 amtV amtE peekT failE
    simp [h, h0]
theorem amt_kind {t2 : Tok} {R : List Tok} (h : t2.kind ≠ 2) : amt5 (t2 :: R) 0 = 2 := by
  unfold amt5 amtV amtE peekT wrongE failE
  simp [h]
theorem amt_nil : amt5 [] 0 = 1 := by
  unfold amt5 amtV amtE peekT wrongE failE
  simp [Tok.none]
/-- the loop and the end behind an element -/
noncomputable def restF (l : List Prod) (f : Nat) (s : St) : St := endF (loopF l f (elemF l s))
theorem restF_err {l : List Prod} {f : Nat} {s : St} {x : Int} (h : (elemF l s).e = x) (hx : x ≠ 0) : (restF l f s).e = x ∧ (restF l f s).b = zero6 := by
  have h0 : (elemF l s).e ≠ 0 := by rw [h]; exact hx
  unfold restF
  rw [loopF_err h0, (endF_err h0).1, (endF_err h0).2]
  exact ⟨h, rfl⟩
theorem rest_go (l : List Prod) : ∀ (n f : Nat) (R : List Tok) (b : Nat → Int) (a : Nat), R.length ≤ n → R.length ≤ f →
    match refGo l R b a with
    | .error x => x ≠ 0 ∧ (restF l f ⟨R, 0, b⟩).e = x ∧ (restF l f ⟨R, 0, b⟩).b = zero6
    | .ok (b', R', _) => restF l f ⟨R, 0, b⟩ = ⟨R', 0, b'⟩
  | n, f, [], b, a, _, _ => by
    unfold refGo
    exact ⟨by decide, restF_err elemF_nil (by decide)⟩
  | n, f, t :: R, b, a, hn, hf => by
    unfold refGo
    by_cases hk : t.kind = 1
    · rw [if_neg (by simp [hk])]
      by_cases hf1 : findP l t.text = none
      · rw [if_pos hf1]
        have h2 : elem2 l t.text b = 6 := by unfold elem2; rw [if_pos hf1]
        refine ⟨by decide, restF_err ?_ (by decide)⟩
        rw [elemF_cons hk, elemR_err (by rw [h2]; decide), h2]
      · rw [if_neg hf1]
        by_cases hb : b (findK l t.text) = 0
        · rw [if_neg (by simp [hb])]
          have h2 : elem2 l t.text b = 0 := by unfold elem2; rw [if_neg hf1, if_neg (by simp [hb])]
          have hE : elemF l ⟨t :: R, 0, b⟩ = elemR R 0 (findK l t.text) b := by rw [elemF_cons hk, h2]
          match R, hn, hf with
          | [], _, _ =>
            refine ⟨by decide, restF_err ?_ (by decide)⟩
            rw [hE]
            unfold elemR
            dsimp only
            rw [exp_nil]
            exact err_amt (by decide)
          | t1 :: R1, hn, hf =>
            dsimp only
            cases hc : isM t1 ⟨#[58]⟩ with
            | false =>
              rw [if_pos rfl]
              refine ⟨by decide, restF_err ?_ (by decide)⟩
              rw [hE]
              unfold elemR
              dsimp only
              rw [exp_no hc]
              exact err_amt (by decide)
            | true =>
              rw [if_neg (by simp)]
              rw [elemR_colon hc] at hE
              match R1, hn, hf with
              | [], _, _ =>
                refine ⟨by decide, restF_err ?_ (by decide)⟩
                rw [hE]
                exact amt_nil
              | t2 :: R2, hn, hf =>
                dsimp only
                by_cases h2k : t2.kind = 2
                · rw [if_neg (by simp [h2k])]
                  by_cases hv : 1 ≤ t2.value ∧ t2.value ≤ 4
                  · rw [if_neg (by simp [hv])]
                    obtain ⟨g1, g2, g3⟩ := amt_good (R := R2) h2k hv.1 hv.2
                    rw [g1, g2, g3] at hE
                    match R2, hn, hf with
                    | [], _, _ =>
                      refine ⟨by decide, ?_⟩
                      unfold restF
                      have hl : ∀ f, loopF l f ⟨[], 0, upd b (findK l t.text) t2.value⟩ = ⟨[], 0, upd b (findK l t.text) t2.value⟩ := by
                        intro f
                        cases f with
                        | zero => rfl
                        | succ f => unfold loopF; rw [if_neg (accB_nil _)]
                      rw [hE, hl]
                      unfold endF
                      dsimp only
                      rw [exp_nil]
                      exact ⟨rfl, rfl⟩
                    | t3 :: R3, hn, hf =>
                      dsimp only
                      obtain ⟨f', rfl⟩ : ∃ f', f = f' + 1 := ⟨f - 1, by simp at hf; omega⟩
                      cases hcm : isM t3 ⟨#[44]⟩ with
                      | true =>
                        have hcb : isM t3 ⟨#[125]⟩ = false := by
                          unfold isM at hcm ⊢
                          simp only [Bool.and_eq_true, eqB_iff] at hcm
                          rw [hcm.2]
                          simp [show eqB (⟨#[44]⟩ : ByteArray) ⟨#[125]⟩ = false by decide +kernel]
                        rw [if_neg (by simp [hcb]), if_pos rfl]
                        have hl : restF l (f' + 1) ⟨t :: t1 :: t2 :: t3 :: R3, 0, b⟩ = restF l f' ⟨R3, 0, upd b (findK l t.text) t2.value⟩ := by
                          unfold restF
                          rw [hE]
                          conv => lhs; unfold loopF
                          rw [if_pos ((accB_cons _ _ _).2 hcm)]
                          rfl
                        rw [hl]
                        simp at hn hf
                        have hn' : n - 1 < n := by omega
                        exact rest_go l (n - 1) f' R3 _ _ (by omega) (by omega)
                      | false =>
                        have hl : loopF l (f' + 1) ⟨t3 :: R3, 0, upd b (findK l t.text) t2.value⟩ = ⟨t3 :: R3, 0, upd b (findK l t.text) t2.value⟩ := by
                          unfold loopF
                          rw [if_neg (fun k => by rw [(accB_cons _ _ _).1 k] at hcm; cases hcm)]
                        cases hcb : isM t3 ⟨#[125]⟩ with
                        | true =>
                          rw [if_pos rfl]
                          dsimp only
                          unfold restF
                          rw [hE, hl]
                          unfold endF
                          dsimp only
                          rw [(exp_yes hcb).1, (exp_yes hcb).2, if_pos rfl]
                        | false =>
                          rw [if_neg (by simp), if_neg (by simp)]
                          refine ⟨by decide, ?_⟩
                          unfold restF
                          rw [hE, hl]
                          unfold endF
                          dsimp only
                          rw [exp_no hcb]
                          exact ⟨rfl, rfl⟩
                  · rw [if_pos hv]
                    refine ⟨by decide, restF_err ?_ (by decide)⟩
                    rw [hE]
                    exact amt_range h2k hv
                · rw [if_pos h2k]
                  refine ⟨by decide, restF_err ?_ (by decide)⟩
                  rw [hE]
                  exact amt_kind h2k
        · rw [if_pos hb]
          have h2 : elem2 l t.text b = 7 := by unfold elem2; rw [if_neg hf1, if_pos hb]
          refine ⟨by decide, restF_err ?_ (by decide)⟩
          rw [elemF_cons hk, elemR_err (by rw [h2]; decide), h2]
    · rw [if_pos hk]
      exact ⟨by decide, restF_err (elemF_bad hk) (by decide)⟩
termination_by n => n
/-- Scan is the reference's Tokens -/
theorem scan_ref (l : List Prod) (L : List Tok) (h : checkE l = 0) :
    match refF l L with
    | .error x => x ≠ 0 ∧ (scanF l L 0).e = x ∧ (scanF l L 0).b = zero6
    | .ok (b', R', _) => scanF l L 0 = ⟨R', 0, b'⟩ := by
  have hs : scanF l L 0 = if accB (expL L 0 ⟨#[123]⟩) (expE L 0 ⟨#[123]⟩) ⟨#[125]⟩ then ⟨nextL (expL L 0 ⟨#[123]⟩) (expE L 0 ⟨#[123]⟩), expE L 0 ⟨#[123]⟩, zero6⟩
      else restF l (L.length + 1) ⟨expL L 0 ⟨#[123]⟩, expE L 0 ⟨#[123]⟩, zero6⟩ := by
    unfold scanF restF
    rw [if_neg (by simp), if_neg (by simp [h])]
  rw [hs]
  clear hs
  cases L with
  | nil =>
    unfold refF
    rw [exp_nil, if_neg (err_acc (by decide) _)]
    exact ⟨by decide, restF_err (elemF_err (by simp)) (by decide)⟩
  | cons t R =>
    unfold refF
    dsimp only
    cases hc : isM t ⟨#[123]⟩ with
    | false =>
      rw [if_pos rfl, exp_no hc, if_neg (err_acc (by decide) _)]
      exact ⟨by decide, restF_err (elemF_err (by simp)) (by decide)⟩
    | true =>
      rw [if_neg (by simp), (exp_yes hc).1, (exp_yes hc).2]
      cases R with
      | nil =>
        rw [if_neg (accB_nil _)]
        exact rest_go l 0 _ [] zero6 1 (by simp) (by simp)
      | cons t1 R1 =>
        cases hcb : isM t1 ⟨#[125]⟩ with
        | true =>
          rw [if_pos ((accB_cons _ _ _).2 hcb)]
          dsimp only
          rw [hcb, if_pos rfl]
          rfl
        | false =>
          rw [if_neg (fun k => by rw [(accB_cons _ _ _).1 k] at hcb; cases hcb)]
          dsimp only
          rw [hcb, if_neg (by simp)]
          exact rest_go l _ _ (t1 :: R1) zero6 1 (Nat.le_refl _) (by simp)
end Cat
end Go.Proofs.YtfopmaeaclbknaaDoor
