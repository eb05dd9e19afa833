/- Contract of the reference's Parse. Printed by gen_catP.py. Plain laws on slices whose elements take several cells each, over any program. Plain: bidders, and what the roster computes. Contracts of Find of both. Printed by gen_ros.py. -/
import Derived.Test.YtaikmgnpfbnjjaaGreatDoorPu12
import Derived.Test.YtaikmgnpfbnjjaaGreatDoorPu08
import Derived.OwnWalk
import Derived.Test.YtaikmgnpfbnjjaaGreatDoorPu07
import Derived.Deep.RegionHeld3
namespace Go.Proofs.YtaikmgnpfbnjjaaGreatDoor
open Go.ChangeShapes Go.WideShapes Go.ChangeAt Go.RowKit
set_option linter.unusedVariables false
set_option linter.unusedSimpArgs false
namespace Cat
open Lex
theorem refGo_rest (l : List Prod) : ∀ (m : Nat) (D : List Tok) (b : Nat → Int) (k : Nat), D.length ≤ m → ∀ b' R n, refGo l D b k = .ok (b', R, n) → ∃ j, n = k + j ∧ R = D.drop j ∧ j ≤ D.length
  | 0, D, b, k, hm, b', R, n, h => by
    obtain rfl : D = [] := List.eq_nil_of_length_eq_zero (by omega)
    unfold refGo at h
    cases h
  | m + 1, D, b, k, hm, b', R, n, h => by
    rw [refGo_D] at h
    unfold goD at h
    by_cases c0 : D.length ≤ 0
    · rw [if_pos c0] at h; cases h
    · rw [if_neg c0] at h
      by_cases c1 : (tokAt D 0).kind ≠ 1
      · rw [if_pos c1] at h; cases h
      · rw [if_neg c1] at h
        by_cases c2 : findP l (tokAt D 0).text = none
        · rw [if_pos c2] at h; cases h
        · rw [if_neg c2] at h
          by_cases c3 : b (findK l (tokAt D 0).text) ≠ 0
          · rw [if_pos c3] at h; cases h
          · rw [if_neg c3] at h
            by_cases c4 : isAt D 1 ⟨#[58]⟩ = false
            · rw [if_pos c4] at h; cases h
            · rw [if_neg c4] at h
              by_cases c5 : D.length ≤ 2 ∨ (tokAt D 2).kind ≠ 2
              · rw [if_pos c5] at h; cases h
              · rw [if_neg c5] at h
                by_cases c6 : ¬ (1 ≤ (tokAt D 2).value ∧ (tokAt D 2).value ≤ 4)
                · rw [if_pos c6] at h; cases h
                · rw [if_neg c6] at h
                  by_cases c7 : isAt D 3 ⟨#[125]⟩ = true
                  · rw [if_pos c7] at h
                    injection h with h
                    injection h with h1 h2
                    injection h2 with h2 h3
                    subst h1 h2 h3
                    refine ⟨4, rfl, rfl, ?_⟩
                    unfold isAt at c7
                    simp at c7
                    omega
                  · rw [if_neg c7] at h
                    by_cases c8 : isAt D 3 ⟨#[44]⟩ = true
                    · rw [if_pos c8] at h
                      have hl : 3 < D.length := by
                        unfold isAt at c8
                        simp at c8
                        omega
                      obtain ⟨j, h1, h2, h3⟩ := refGo_rest l m (D.drop 4) _ _ (by rw [List.length_drop]; omega) _ _ _ h
                      rw [List.length_drop] at h3
                      exact ⟨4 + j, by omega, by rw [h2, List.drop_drop], by omega⟩
                    · rw [if_neg c8] at h; cases h
theorem refF_rest {l : List Prod} {U : List Tok} {b' : Nat → Int} {R : List Tok} {n : Nat} (h : refF l U = .ok (b', R, n)) : R = U.drop n ∧ n ≤ U.length := by
  rw [refF_at] at h
  by_cases c0 : isAt U 0 ⟨#[123]⟩ = false
  · rw [if_pos c0] at h; cases h
  · rw [if_neg c0] at h
    have hl : 0 < U.length := by
      unfold isAt at c0
      simp at c0
      omega
    by_cases c1 : isAt U 1 ⟨#[125]⟩ = true
    · rw [if_pos c1] at h
      injection h with h
      injection h with h1 h2
      injection h2 with h2 h3
      subst h1 h2 h3
      refine ⟨rfl, ?_⟩
      unfold isAt at c1
      simp at c1
      omega
    · rw [if_neg c1] at h
      obtain ⟨j, h1, h2, h3⟩ := refGo_rest l _ (U.drop 1) _ _ (Nat.le_refl _) _ _ _ h
      rw [List.length_drop] at h3
      exact ⟨by rw [h2, List.drop_drop, h1], by omega⟩
/-- what the reference's Tokens gives, in three parts -/
def rtB : Except Int ((Nat → Int) × List Tok × Nat) → Nat → Int
  | .error _ => zero6
  | .ok (b, _, _) => b
def rtN : Except Int ((Nat → Int) × List Tok × Nat) → Nat
  | .error _ => 0
  | .ok (_, _, n) => n
def rtE : Except Int ((Nat → Int) × List Tok × Nat) → Int
  | .error x => x
  | .ok _ => 0
theorem rtokV_eq (r : Except Int ((Nat → Int) × List Tok × Nat)) : rtokV r = .tuple #[.agg (arr (rtB r)), .int .i64 (rtN r : Int), .int .i64 (rtE r)] := by
  cases r with
  | error x => rfl
  | ok r => obtain ⟨b, R, n⟩ := r; rfl
theorem refF_err_ne {l : List Prod} {U : List Tok} {x : Int} (hz : checkE l = 0) (h : refF l U = .error x) : x ≠ 0 := by
  have := scan_ref l U hz
  rw [h] at this
  exact this.1
theorem parseT_parts (l : List Prod) (U : List Tok) (hz : checkE l = 0) : parseT l U = if rtE (refF l U) ≠ 0 then (zero6, rtE (refF l U)) else if rtN (refF l U) < U.length then (zero6, 3) else (rtB (refF l U), 0) := by
  unfold parseT
  cases h : refF l U with
  | error x =>
    have := refF_err_ne hz h
    show (zero6, x) = if x ≠ 0 then (zero6, x) else _
    rw [if_pos this]
  | ok r =>
    obtain ⟨b, R, n⟩ := r
    obtain ⟨h1, h2⟩ := refF_rest h
    have e1 : rtE (.ok (b, R, n)) = 0 := rfl
    have e2 : rtN (.ok (b, R, n)) = n := rfl
    have e3 : rtB (.ok (b, R, n)) = b := rfl
    rw [e1, e2, e3, if_neg (fun h => h rfl)]
    dsimp only
    by_cases c : n < U.length
    · have hR : R ≠ [] := by
        intro e
        rw [e] at h1
        have := congrArg List.length h1
        rw [List.length_drop] at this
        simp at this
        omega
      rw [if_pos c, if_neg hR]
    · have hR : R = [] := by
        rw [h1]
        exact List.drop_eq_nil_of_le (by omega)
      rw [if_neg c, if_pos hR]
set_option maxRecDepth 100000 in
theorem rparse_bad (l : List Prod) (v : Value) (s : ByteArray) (w : World) (hl : l.length ≤ 5000) (hp : PS w v l) (hn : ∀ p ∈ l, p.name.size ≤ maxLen) (hz : checkE l ≠ 0) : Calls Tryz.prog 61 #[v, .string s] w (ParsePost (zero6, checkE l) w) := by
  have CC := Lib.hid (fun w' (k : Below w.heap.size w w') => rcheck_any l v w' hl (Sl.keep hp k) hn)
  have HK := Lib.hid (Blk.new w 23 (arr zero6))
  have q1 : (checkE l != 0) = true := by simpa using hz
  obtain ⟨A, c, rfl, _, _, _⟩ := ps_cases hp
  clear hp hz hn
  go_enter Tryz.func61, Tryz.ntmps61
  go_wp2_with fail
  refine (CC.out _ (below_new _ _)).mono ?_
  rintro r w2 ⟨rfl, d2⟩
  have K2 := Lib.hid (HK.out.below' d2)
  have B2 := Lib.hid (chain1 (Below.refl _ _) d2)
  clear d2
  obtain ⟨Z0, Z1, Z2, Z3, Z4, Z5⟩ := K2.out.box.cells
  have zf := K2.out.box.free
  go_wp2_with fail
  have RE := res_end0 K2.out.box
  obtain ⟨X0, X1, X2, X3, X4, X5⟩ := RE.cells
  refine bodyPost_ret (v := .tuple #[.agg (arr zero6), .int .i64 (checkE l)]) (by simp [results, Tryz.results61, go_sem, arr, X0, X1, X2, X3, X4, X5, zero6]) rfl ⟨rfl, below_sixz B2.out (Nat.le_refl _)⟩

set_option maxRecDepth 100000 in
theorem rparse_lex (l : List Prod) (v : Value) (s : ByteArray) (w : World) (hl : l.length ≤ 5000) (hp : PS w v l) (hn : ∀ p ∈ l, p.name.size ≤ maxLen) (hss : s.size ≤ 5000) (hz : checkE l = 0) (he : LexErr (lex s) ≠ 0) : Calls Tryz.prog 61 #[v, .string s] w (ParsePost (zero6, LexErr (lex s)) w) := by
  have CC := Lib.hid (fun w' (k : Below w.heap.size w w') => rcheck_any l v w' hl (Sl.keep hp k) hn)
  have CT := Lib.hid (fun w' => refTokens_any s w' hss)
  have HK := Lib.hid (Blk.new w 23 (arr zero6))
  have q1 : (checkE l != 0) = false := by simpa using hz
  have q2 : (LexErr (lex s) != 0) = true := by simpa using he
  obtain ⟨A, c, rfl, _, _, _⟩ := ps_cases hp
  clear hp hz hn he
  go_enter Tryz.func61, Tryz.ntmps61
  go_wp2_with fail
  refine (CC.out _ (below_new _ _)).mono ?_
  rintro r w2 ⟨rfl, d2⟩
  have K2 := Lib.hid (HK.out.below' d2)
  have B2 := Lib.hid (chain1 (Below.refl _ _) d2)
  clear d2
  go_wp2_with fail
  refine (CT.out _).mono ?_
  rintro r w3 ⟨v3, rfl, ho, d3⟩
  have K3 := Lib.hid (K2.out.below' d3)
  have B3 := Lib.hid (chain0 B2.out d3)
  obtain ⟨A3, c3, rfl⟩ := own_form ho
  clear d3 ho
  obtain ⟨Z0, Z1, Z2, Z3, Z4, Z5⟩ := K3.out.box.cells
  have zf := K3.out.box.free
  go_wp2_with fail
  have RE := res_end0 K3.out.box
  obtain ⟨X0, X1, X2, X3, X4, X5⟩ := RE.cells
  refine bodyPost_ret (v := .tuple #[.agg (arr zero6), .int .i64 (LexErr (lex s))]) (by simp [results, Tryz.results61, go_sem, arr, X0, X1, X2, X3, X4, X5, zero6]) rfl ⟨rfl, below_sixz B3.out (Nat.le_refl _)⟩

set_option maxRecDepth 100000 in
set_option maxHeartbeats 1000000 in
theorem rparse_toks (l : List Prod) (v : Value) (s : ByteArray) (w : World) (hl : l.length ≤ 5000) (hp : PS w v l) (hn : ∀ p ∈ l, p.name.size ≤ maxLen) (hss : s.size ≤ 5000) (hz : checkE l = 0) (he : LexErr (lex s) = 0) : Calls Tryz.prog 61 #[v, .string s] w (ParsePost (parseT l (LexToks (lex s))) w) := by
  have CC := Lib.hid (fun w' (k : Below w.heap.size w w') => rcheck_any l v w' hl (Sl.keep hp k) hn)
  have CT := Lib.hid (fun w' => refTokens_any s w' hss)
  have HK := Lib.hid (Blk.new w 23 (arr zero6))
  have q1 : (checkE l != 0) = false := by simpa using hz
  have q2 : (LexErr (lex s) != 0) = false := by simpa using he
  have hL : (LexToks (lex s)).length ≤ 5000 := lexToks_len s hss
  have HP := Lib.hid (parseT_parts l (LexToks (lex s)) hz)
  have h6 := (checkE_zero hz).2.1
  have CR := Lib.hid (fun v' w' (k : Below w.heap.size w w') h => rtokens_any l v (LexToks (lex s)) v' w' h6 (Sl.keep hp k) hL h)
  generalize hgt : LexToks (lex s) = L at *
  have HGT := Lib.hid hgt
  clear hgt
  have HV := Lib.hid (rtokV_eq (refF l L))
  obtain ⟨A, c, rfl, _, _, _⟩ := ps_cases hp
  clear hp hz hn he
  go_enter Tryz.func61, Tryz.ntmps61
  go_wp2_with fail
  refine (CC.out _ (below_new _ _)).mono ?_
  rintro r w2 ⟨rfl, d2⟩
  have K2 := Lib.hid (HK.out.below' d2)
  have B2 := Lib.hid (chain1 (Below.refl _ _) d2)
  clear d2
  go_wp2_with fail
  refine (CT.out _).mono ?_
  rintro r w3 ⟨v3, rfl, ho, d3⟩
  have K3 := Lib.hid (K2.out.below' d3)
  have B3 := Lib.hid (chain0 B2.out d3)
  rw [HGT.out] at ho
  have HO := Lib.hid (Sl.of_own ho)
  obtain ⟨A3, c3, rfl⟩ := own_form ho
  clear d3 ho
  go_wp2_with fail
  refine (CR.out _ _ B3.out HO.out).mono ?_
  rintro r w4 ⟨rfl, d4⟩
  have K4 := Lib.hid (K3.out.below' d4)
  have B4 := Lib.hid (chain0 B3.out d4)
  have HN := Lib.hid (Blk.new w4 23 (arr (rtB (refF l L))))
  have K5 := Lib.hid (K4.out.alloc (.cells (arr (rtB (refF l L))) 23))
  clear d4
  rw [HV.out]
  generalize rtB (refF l L) = b at *
  generalize rtN (refF l L) = n at *
  generalize rtE (refF l L) = x at *
  by_cases hx : x = 0
  · have qx : (x != 0) = false := by simpa using hx
    rw [if_neg (by simp [hx])] at HP
    clear hx
    by_cases hnl : n < L.length
    · rw [if_pos hnl] at HP
      obtain ⟨Z0, Z1, Z2, Z3, Z4, Z5⟩ := K5.out.box.cells
      have zf := K5.out.box.free
      go_wp2_with fail
      have RE := res_end0 K5.out.box
      obtain ⟨X0, X1, X2, X3, X4, X5⟩ := RE.cells
      refine bodyPost_ret (v := .tuple #[.agg (arr zero6), .int .i64 3]) (by simp [results, Tryz.results61, go_sem, arr, X0, X1, X2, X3, X4, X5, zero6]) rfl ?_
      show ParsePost (parseT l L) w _ _
      rw [HP.out]
      exact ⟨rfl, below_sixz (B4.out.alloc B4.out.size _) (Nat.le_refl _)⟩
    · rw [if_neg hnl] at HP
      obtain ⟨Q0, Q1, Q2, Q3, Q4, Q5⟩ := HN.out.box.cells
      obtain ⟨Z0, Z1, Z2, Z3, Z4, Z5⟩ := K5.out.box.cells
      have zf := K5.out.box.free
      go_wp2_with fail
      have RE := res_end K5.out.box b
      obtain ⟨X0, X1, X2, X3, X4, X5⟩ := RE.cells
      refine bodyPost_ret (v := .tuple #[.agg (arr b), .int .i64 0]) (by simp [results, Tryz.results61, go_sem, arr, X0, X1, X2, X3, X4, X5]) rfl ?_
      show ParsePost (parseT l L) w _ _
      rw [HP.out]
      exact ⟨rfl, below_six (B4.out.alloc B4.out.size _) (Nat.le_refl _) _⟩
  · have qx : (x != 0) = true := by simpa using hx
    rw [if_pos hx] at HP
    clear hx
    obtain ⟨Z0, Z1, Z2, Z3, Z4, Z5⟩ := K5.out.box.cells
    have zf := K5.out.box.free
    go_wp2_with fail
    have RE := res_end0 K5.out.box
    obtain ⟨X0, X1, X2, X3, X4, X5⟩ := RE.cells
    refine bodyPost_ret (v := .tuple #[.agg (arr zero6), .int .i64 x]) (by simp [results, Tryz.results61, go_sem, arr, X0, X1, X2, X3, X4, X5, zero6]) rfl ?_
    show ParsePost (parseT l L) w _ _
    rw [HP.out]
    exact ⟨rfl, below_sixz (B4.out.alloc B4.out.size _) (Nat.le_refl _)⟩
theorem rparse_any (l : List Prod) (v : Value) (s : ByteArray) (w : World) (hl : l.length ≤ 5000) (hp : PS w v l) (hn : ∀ p ∈ l, p.name.size ≤ maxLen) (hss : s.size ≤ 5000) : Calls Tryz.prog 61 #[v, .string s] w (ParsePost (parseF l s) w) := by
  unfold parseF
  by_cases hz : checkE l = 0
  · rw [if_neg (by simp [hz])]
    by_cases he : LexErr (lex s) = 0
    · rw [if_neg (by simp [he])]
      exact rparse_toks l v s w hl hp hn hss hz he
    · rw [if_pos he]
      exact rparse_lex l v s w hl hp hn hss hz he
  · rw [if_pos hz]
    exact rparse_bad l v s w hl hp hn hz
end Cat
end Go.Proofs.YtaikmgnpfbnjjaaGreatDoor
namespace Go.Proofs.YtaikmgnpfbnjjaaGreatDoor.Gn
open Go.ChangeShapes Go.WideShapes Go.ChangeAt Go.RowKit
section
variable {T : Type} {K : Nat} {c : T → List Value}
theorem flat_get (hc : ∀ t, (c t).length = K) : ∀ (L : List T) (i r : Nat) (hi : i < L.length), r < K → (L.flatMap c)[i * K + r]? = (c L[i])[r]?
  | t :: L, 0, r, hi, hr => by
    rw [List.flatMap_cons, Nat.zero_mul, Nat.zero_add, List.getElem?_append_left (by rw [hc]; exact hr)]
    rfl
  | t :: L, i + 1, r, hi, hr => by
    have hi' : i < L.length := by simpa using hi
    rw [List.flatMap_cons, List.getElem?_append_right (by rw [hc, Nat.succ_mul]; omega), hc]
    have e : (i + 1) * K + r - K = i * K + r := by rw [Nat.succ_mul]; omega
    rw [e, flat_get hc L i r hi' hr]
    rfl
end
/-- a row of cells in memory -/
def Row (w : World) (b o : Nat) (xs : List Value) : Prop := ∀ (j : Nat) (u : Value), xs[j]? = some u → w.cell? ⟨b, o + j, none⟩ = some u
theorem Row.below {w w' : World} {b o : Nat} {xs : List Value} (h : Row w b o xs) (hb : b < w.heap.size) (hB : Below w.heap.size w w') : Row w' b o xs := fun j u hu => by
  rw [hB.cell (p := ⟨b, _, none⟩) hb]
  exact h j u hu
theorem Row.elem {w : World} {b o : Nat} {T : Type} {K : Nat} {c : T → List Value} {L : List T} (h : Row w b o (L.flatMap c)) (hc : ∀ t, (c t).length = K) (i : Nat) (hi : i < L.length) (r : Nat) (hr : r < K) (u : Value) (hu : (c L[i])[r]? = some u) : w.cell? ⟨b, o + i * K + r, none⟩ = some u := by
  have := h (i * K + r) u (by rw [flat_get hc L i r hi hr]; exact hu)
  rw [Nat.add_assoc]
  exact this
theorem Row.elem0 {w : World} {b o : Nat} {T : Type} {K : Nat} {c : T → List Value} {L : List T} (h : Row w b o (L.flatMap c)) (hc : ∀ t, (c t).length = K) (i : Nat) (hi : i < L.length) (hr : 0 < K) (u : Value) (hu : (c L[i])[0]? = some u) : w.cell? ⟨b, o + i * K, none⟩ = some u := by
  have := h.elem hc i hi 0 hr u hu
  simpa using this
theorem sl_parts {w : World} {K n : Nat} {v : Value} {xs : List Value} (h : Sl w K v n xs) : ∃ A cap, v = .slice A n cap ∧ n ≤ cap ∧ cap ≤ maxLen ∧ (0 < n → ∃ b o, A = some ⟨b, o, none⟩ ∧ b < w.heap.size ∧ Row w b o xs) := by
  obtain ⟨_, A, cap, h1, h2, h3, h4⟩ := h
  exact ⟨A, cap, h1, h2, h3, h4⟩
theorem own_form {w : World} {base : Nat} {e : TypeId} {size n : Nat} {v : Value} {xs : List Value} (h : w.ownsRow base e size v n xs) : ∃ A c, v = .slice A n c := by
  rcases h.2 with ⟨rfl, rfl⟩ | ⟨g, cap, cur, rfl, _⟩
  · exact ⟨none, 0, rfl⟩
  · exact ⟨_, cap, rfl⟩
theorem cells_new (w : World) (cs : List Value) (t : TypeId) : ∀ j u, cs[j]? = some u → (w.alloc (.cells cs.toArray t)).cell? ((⟨w.heap.size, 0, none⟩ : Addr).add j) = some u := by
  intro j u hu
  rw [OpenAdd.add_at, (Blk.new w t cs.toArray).cell]
  simpa using hu
end Go.Proofs.YtaikmgnpfbnjjaaGreatDoor.Gn
namespace Go.Proofs.YtaikmgnpfbnjjaaGreatDoor.Ros
open Go.ChangeShapes Go.WideShapes Go.ChangeAt Go.RowKit Gn Cat Lex
set_option linter.unusedVariables false
set_option linter.unusedSimpArgs false
/-- a bidder -/
structure Bid where
  name : ByteArray
  cls : Int
  budget : Int
  points : Int
def Bid.none : Bid := ⟨⟨#[]⟩, 0, 0, 0⟩
abbrev Bid.cells (p : Bid) : List Value := [.string p.name, .int .i64 p.cls, .int .i64 p.budget, .int .i64 p.points]
theorem bid_len (p : Bid) : p.cells.length = 4 := rfl
/-- a list of bidders in memory -/
abbrev BidS (w : World) (v : Value) (l : List Bid) : Prop := Sl w 4 v l.length (l.flatMap Bid.cells)
/-- a row of bidders in memory -/
abbrev BidRow (w : World) (b o : Nat) (l : List Bid) : Prop := Row w b o (l.flatMap Bid.cells)
theorem BidRow.at_ {w : World} {b o : Nat} {l : List Bid} (h : BidRow w b o l) (k : Nat) (hk : k < l.length) :
    w.cell? ⟨b, o + k * 4, none⟩ = some (.string l[k].name) ∧ w.cell? ⟨b, o + k * 4 + 1, none⟩ = some (.int .i64 l[k].cls) ∧ w.cell? ⟨b, o + k * 4 + 2, none⟩ = some (.int .i64 l[k].budget) ∧ w.cell? ⟨b, o + k * 4 + 3, none⟩ = some (.int .i64 l[k].points) :=
  ⟨h.elem0 bid_len k hk (by omega) _ rfl, h.elem bid_len k hk 1 (by omega) _ rfl, h.elem bid_len k hk 2 (by omega) _ rfl, h.elem bid_len k hk 3 (by omega) _ rfl⟩
theorem BidRow.take {w : World} {b o : Nat} {l : List Bid} (h : BidRow w b o l) (k : Nat) : BidRow w b o (l.take k) := by
  intro j u hu
  refine h j u ?_
  have e : l.flatMap Bid.cells = (l.take k).flatMap Bid.cells ++ (l.drop k).flatMap Bid.cells := by
    rw [← List.flatMap_append, List.take_append_drop]
  rw [e, List.getElem?_append_left]
  · exact hu
  · exact (List.getElem?_eq_some_iff.1 hu).1
def findFromB (name : ByteArray) : List Bid → Nat → Option Nat
  | [], _ => none
  | p :: r, i => if eqB p.name name then some i else findFromB name r (i + 1)
def findB (l : List Bid) (name : ByteArray) : Option Nat := findFromB name l 0
theorem findFromB_lt {name : ByteArray} : ∀ {l : List Bid} {i k : Nat}, findFromB name l i = some k → i ≤ k ∧ k < i + l.length
  | [], i, k, h => by simp [findFromB] at h
  | p :: r, i, k, h => by
    rw [findFromB] at h
    split at h
    · cases h; simp
    · have := findFromB_lt h
      rw [List.length_cons]
      omega
theorem findFromB_drop {name : ByteArray} {l : List Bid} {k : Nat} (h : k < l.length) (j : Nat) : findFromB name (l.drop k) j = if eqB l[k].name name then some j else findFromB name (l.drop (k + 1)) (j + 1) := by
  rw [List.drop_eq_getElem_cons h]
  rfl
theorem findFromB_end {name : ByteArray} {l : List Bid} (j : Nat) : findFromB name (l.drop l.length) j = none := by
  rw [List.drop_length]
  rfl
def bidOk (p : Bid) : Bool := inR p.cls 0 4 && (inR p.budget 0 1000000 && inR p.points 0 24000)
theorem bidOk_iff {p : Bid} : bidOk p = true ↔ (0 ≤ p.cls ∧ p.cls ≤ 4) ∧ (0 ≤ p.budget ∧ p.budget ≤ 1000000) ∧ (0 ≤ p.points ∧ p.points ≤ 24000) := by simp [bidOk, inR]
def rosGo (l : List Bid) : List Bid → Nat → Int
  | [], _ => 0
  | p :: r, i => if nameOk p.name then (if (findB (l.take i) p.name).isSome then 7 else if bidOk p then rosGo l r (i + 1) else 4) else 5
theorem rosGo_drop {l : List Bid} {k : Nat} (hk : k < l.length) : rosGo l (l.drop k) k = if nameOk l[k].name then (if (findB (l.take k) l[k].name).isSome then 7 else if bidOk l[k] then rosGo l (l.drop (k + 1)) (k + 1) else 4) else 5 := by
  rw [List.drop_eq_getElem_cons hk, rosGo]
theorem rosGo_all {l : List Bid} : ∀ (r : List Bid) (i : Nat), rosGo l r i = 0 → ∀ p ∈ r, bidOk p = true ∧ nameOk p.name = true
  | [], _, _ => by simp
  | p :: r, i, h => by
    rw [rosGo] at h
    split at h
    · rename_i hn
      split at h
      · cases h
      · split at h
        · rename_i hb
          intro q hq
          rcases List.mem_cons.1 hq with rfl | hq
          · exact ⟨hb, hn⟩
          · exact rosGo_all r (i + 1) h q hq
        · cases h
    · cases h
/-- what Check computes -/
def rosE (l : List Bid) : Int := if l.length = 0 then 1 else if 8 < l.length then 3 else rosGo l l 0
theorem rosE_mid {l : List Bid} (h0 : 0 < l.length) (h8 : l.length ≤ 8) : rosE l = rosGo l l 0 := by
  unfold rosE
  rw [if_neg (by omega), if_neg (by omega)]
theorem rosE_zero {l : List Bid} (h : rosE l = 0) : 0 < l.length ∧ l.length ≤ 8 ∧ rosGo l l 0 = 0 := by
  unfold rosE at h
  split at h
  · cases h
  · split at h
    · cases h
    · exact ⟨by omega, by omega, h⟩
/-- the first with a name: the place itself if and only if none before has it -/
theorem find_first {name : ByteArray} : ∀ (l : List Bid) (k i : Nat) (hk : k < l.length), l[k].name = name → findFromB name l i = some ((findFromB name (l.take k) i).getD (i + k))
  | p :: r, 0, i, hk, h => by
    rw [show findFromB name (p :: r) i = if eqB p.name name then some i else findFromB name r (i + 1) from rfl, if_pos (eqB_iff.2 (show p.name = name from h))]
    simp [findFromB]
  | p :: r, k + 1, i, hk, h => by
    rw [List.take_succ_cons, show findFromB name (p :: r) i = if eqB p.name name then some i else findFromB name r (i + 1) from rfl, show findFromB name (p :: r.take k) i = if eqB p.name name then some i else findFromB name (r.take k) (i + 1) from rfl]
    split
    · rfl
    · have := find_first r k (i + 1) (by simpa using hk) (by simpa using h)
      rw [this]
      congr 2
      omega
theorem find_at {l : List Bid} {k : Nat} (hk : k < l.length) : findB l l[k].name = some ((findB (l.take k) l[k].name).getD k) := by
  have := find_first l k 0 hk rfl
  rw [Nat.zero_add] at this
  exact this
theorem find_take_lt {l : List Bid} {k j : Nat} {name : ByteArray} (h : findB (l.take k) name = some j) : j < k := by
  have := (findFromB_lt h).2
  simp at this
  omega
end Go.Proofs.YtaikmgnpfbnjjaaGreatDoor.Ros
namespace Go.Proofs.YtaikmgnpfbnjjaaGreatDoor.Ros
open Go.ChangeShapes Go.WideShapes Go.ChangeAt Go.RowKit Gn Cat Lex
set_option linter.unusedVariables false
set_option linter.unusedSimpArgs false
def findI (l : List Bid) (name : ByteArray) : Int := (((findB l name).getD 0 : Nat) : Int)
def findOk (l : List Bid) (name : ByteArray) : Bool := (findB l name).isSome
abbrev FindPost (l : List Bid) (name : ByteArray) (w : World) : Ending → World → Prop := fun e w' => e = .returned (.tuple #[.int .i64 (findI l name), .bool (findOk l name)]) ∧ Below w.heap.size w w'

theorem find_empty (A : Option Addr) (c : Nat) (name : ByteArray) (w : World) : Calls Tryz.prog 87 #[.slice A 0 c, .string name] w (FindPost [] name w) := by
  go_enter Tryz.func87, Tryz.ntmps87
  go_wp2_with fail
  refine wp_loop_rounds 1 ?_
  rw [rounds_succ]
  go_wp2_with fail
  go_ret2
  exact ⟨rfl, Below.refl _ _⟩
theorem find_some (l : List Bid) (b1 o1 c1 : Nat) (name : ByteArray) (w : World) (hl : l.length ≤ 5000) (hb1 : b1 < w.heap.size) (h1 : BidRow w b1 o1 l) :
    Calls Tryz.prog 87 #[.slice (some ⟨b1, o1, none⟩) l.length c1, .string name] w (FindPost l name w) := by
  have HR := Lib.hid h1
  clear h1
  go_enter Tryz.func87, Tryz.ntmps87
  go_wp2_with fail
  go_loopw [10] (fun i wr => ∃ k : Nat, k ≤ l.length ∧ i = .int .i64 (k : Int) ∧ Hid (findFromB name (l.drop k) k = findB l name) ∧ Hid (Below w.heap.size w wr)) (fun i _ => l.length - (intOf i).toNat)
  case atStart => exact ⟨0, by omega, rfl, rfl, Below.refl _ _⟩
  case round =>
    obtain ⟨k, hk, rfl, HX, HB0⟩ := hrel
    by_cases hlt : k < l.length
    · have hd : decide ((k : Int) < (l.length : Int)) = true := by simp; omega
      have hi0 : (0 : Int) ≤ (k : Int) := by omega
      have et := HR.out.at_ k hlt
      simp only [← HB0.out.cell (p := ⟨b1, _, none⟩) hb1] at et
      have hbr : b1 < wr.heap.size := by have := HB0.out.size; omega
      have hst := findFromB_drop (name := name) hlt k
      cases he : eqB l[k].name name with
      | true =>
        rw [he, if_pos rfl] at hst
        have HF : Hid (findB l name = some k) := HX.out.symm.trans hst
        have he2 : (l[k].name.toList == name.toList) = true := he
        clear hst he
        generalize l[k] = p at *
        go_wp2_with fail
        go_ret2
        exact ⟨by unfold findI findOk; rw [HF.out]; rfl, HB0.out.alloc HB0.out.size _⟩
      | false =>
        rw [he, if_neg (by simp)] at hst
        have HF : Hid (findFromB name (l.drop (k + 1)) (k + 1) = findB l name) := hst.symm.trans HX.out
        have he2 : (l[k].name.toList == name.toList) = false := he
        clear hst he
        generalize l[k] = p at *
        go_wp2_with fail
        go_roundw
        case rel => exact ⟨k + 1, by omega, by go_num, HF, HB0.out.alloc HB0.out.size _⟩
        case measure => simp [intOf]; omega
    · obtain rfl : k = l.length := by omega
      have hd : decide ((l.length : Int) < (l.length : Int)) = false := by simp
      have HF : Hid (findB l name = none) := HX.out.symm.trans (findFromB_end _)
      go_wp2_with fail
      go_ret2
      exact ⟨by unfold findI findOk; rw [HF.out]; rfl, HB0.out⟩
theorem find_take (l : List Bid) (b1 o1 c1 k : Nat) (name : ByteArray) (w : World) (hl : l.length ≤ 5000) (hk : k ≤ l.length) (hb1 : b1 < w.heap.size) (h1 : BidRow w b1 o1 l) : Calls Tryz.prog 87 #[.slice (some ⟨b1, o1, none⟩) k c1, .string name] w (FindPost (l.take k) name w) := by
  have e : (l.take k).length = k := by simp; omega
  have h := find_some (l.take k) b1 o1 c1 name w (by omega) hb1 (h1.take k)
  rw [e] at h
  exact h
theorem find_any (l : List Bid) (v : Value) (name : ByteArray) (w : World) (hl : l.length ≤ 5000) (h : BidS w v l) : Calls Tryz.prog 87 #[v, .string name] w (FindPost l name w) := by
  obtain ⟨A, c, rfl, _, _, ha⟩ := sl_parts h
  cases l with
  | nil => exact find_empty A c name w
  | cons p l =>
    obtain ⟨b, o, rfl, hb, r⟩ := ha (by simp)
    exact find_some _ b o c name w hl hb r
theorem rfind_empty (A : Option Addr) (c : Nat) (name : ByteArray) (w : World) : Calls Tryz.prog 60 #[.slice A 0 c, .string name] w (FindPost [] name w) := by
  go_enter Tryz.func60, Tryz.ntmps60
  go_wp2_with fail
  refine wp_loop_rounds 1 ?_
  rw [rounds_succ]
  go_wp2_with fail
  go_ret2
  exact ⟨rfl, Below.refl _ _⟩
theorem rfind_some (l : List Bid) (b1 o1 c1 : Nat) (name : ByteArray) (w : World) (hl : l.length ≤ 5000) (hb1 : b1 < w.heap.size) (h1 : BidRow w b1 o1 l) :
    Calls Tryz.prog 60 #[.slice (some ⟨b1, o1, none⟩) l.length c1, .string name] w (FindPost l name w) := by
  have HR := Lib.hid h1
  clear h1
  go_enter Tryz.func60, Tryz.ntmps60
  go_wp2_with fail
  go_loopw [6] (fun i wr => ∃ k : Nat, k ≤ l.length ∧ i = .int .i64 (k : Int) ∧ Hid (findFromB name (l.drop k) k = findB l name) ∧ Hid (Below w.heap.size w wr)) (fun i _ => l.length - (intOf i).toNat)
  case atStart => exact ⟨0, by omega, rfl, rfl, Below.refl _ _⟩
  case round =>
    obtain ⟨k, hk, rfl, HX, HB0⟩ := hrel
    by_cases hlt : k < l.length
    · have hd : decide ((k : Int) < (l.length : Int)) = true := by simp; omega
      have hi0 : (0 : Int) ≤ (k : Int) := by omega
      have et := HR.out.at_ k hlt
      simp only [← HB0.out.cell (p := ⟨b1, _, none⟩) hb1] at et
      have hbr : b1 < wr.heap.size := by have := HB0.out.size; omega
      have hst := findFromB_drop (name := name) hlt k
      cases he : eqB l[k].name name with
      | true =>
        rw [he, if_pos rfl] at hst
        have HF : Hid (findB l name = some k) := HX.out.symm.trans hst
        have he2 : (l[k].name.toList == name.toList) = true := he
        clear hst he
        generalize l[k] = p at *
        go_wp2_with fail
        go_ret2
        exact ⟨by unfold findI findOk; rw [HF.out]; rfl, HB0.out⟩
      | false =>
        rw [he, if_neg (by simp)] at hst
        have HF : Hid (findFromB name (l.drop (k + 1)) (k + 1) = findB l name) := hst.symm.trans HX.out
        have he2 : (l[k].name.toList == name.toList) = false := he
        clear hst he
        generalize l[k] = p at *
        go_wp2_with fail
        go_roundw
        case rel => exact ⟨k + 1, by omega, by go_num, HF, HB0.out⟩
        case measure => simp [intOf]; omega
    · obtain rfl : k = l.length := by omega
      have hd : decide ((l.length : Int) < (l.length : Int)) = false := by simp
      have HF : Hid (findB l name = none) := HX.out.symm.trans (findFromB_end _)
      go_wp2_with fail
      go_ret2
      exact ⟨by unfold findI findOk; rw [HF.out]; rfl, HB0.out⟩
theorem rfind_any (l : List Bid) (v : Value) (name : ByteArray) (w : World) (hl : l.length ≤ 5000) (h : BidS w v l) : Calls Tryz.prog 60 #[v, .string name] w (FindPost l name w) := by
  obtain ⟨A, c, rfl, _, _, ha⟩ := sl_parts h
  cases l with
  | nil => exact rfind_empty A c name w
  | cons p l =>
    obtain ⟨b, o, rfl, hb, r⟩ := ha (by simp)
    exact rfind_some _ b o c name w hl hb r
end Go.Proofs.YtaikmgnpfbnjjaaGreatDoor.Ros
