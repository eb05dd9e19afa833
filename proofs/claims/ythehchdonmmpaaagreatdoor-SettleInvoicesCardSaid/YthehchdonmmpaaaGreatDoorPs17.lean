/- What the law asks of the reference's Cmp, at the least integer above a fraction. Plain laws on slices whose elements take several cells each, over any program. Plain: sellers, invoices, shares; what the check of a list of sellers computes. Contracts of amount.Parse and of the reference's. Printed by gen_am1.py. The reference's Parse on digits; both Parse whole. Printed by gen_am2.py. Format of both: the decimal numeral. The listed table of the powers of ten, out of the row's condition; the start of the witness. Opening an argument that is a slice of elements of several cells. Over any program. Opening an argument that is a list of products, or a bundle. -/
import Derived.Test.YthehchdonmmpaaaGreatDoorPs16
import Derived.Test.YthehchdonmmpaaaGreatDoorPs00
import Derived.OwnWalk
import Derived.Test.YthehchdonmmpaaaGreatDoorPs14
import Derived.Test.YthehchdonmmpaaaGreatDoorPs08
import Derived.Test.YthehchdonmmpaaaGreatDoorPs07
import Derived.WalkSpells
import Derived.WalkLawsBesides
import Derived.Test.YthehchdonmmpaaaGreatDoorShelf
import Derived.Lib.ItoaNum
import Derived.Laws.IdiomStrings
import Derived.Lib.LaidTab
import Derived.Test.YthehchdonmmpaaaGreatDoorRows
import Derived.ProofKit
import Derived.Lay
import Derived.MakeChecks
import Derived.WalkKit
import Derived.OpenShut
import Derived.Lib.SmallJoins
import Derived.Deep.Slices
import Derived.Deep.Fields
import Derived.Test.YthehchdonmmpaaaGreatDoorPs10
namespace Go.Proofs.YthehchdonmmpaaaGreatDoor
open Go.ChangeShapes Go.WideShapes Go.ChangeAt Go.RowKit
set_option linter.unusedVariables false
set_option linter.unusedSimpArgs false
namespace Fr
theorem ceil_facts {n d : Nat} (hd : d ≠ 0) : n ≤ ceilN n d * d ∧ (n ≠ 0 → 1 ≤ ceilN n d ∧ (ceilN n d - 1) * d < n) ∧ (n = 0 → ceilN n d = 0) := by
  have h1 := Nat.div_add_mod n d
  have h2 := Nat.mod_lt n (Nat.pos_of_ne_zero hd)
  have h3 : n / d * d = d * (n / d) := Nat.mul_comm _ _
  have h5 : n / d = 0 → n = n % d := fun e => by rw [e] at h1; simpa using h1.symm
  have h6 : n = 0 → n / d = 0 := fun e => by rw [e]; simp
  have h7 : n = 0 → n % d = 0 := fun e => by rw [e]; simp
  unfold ceilN
  generalize n / d = q at *
  generalize n % d = r at *
  by_cases h : r = 0
  · rw [if_pos h, Nat.add_zero]
    have h4 : n ≠ 0 → 1 ≤ q := fun hn => by
      rcases Nat.eq_zero_or_pos q with e | e
      · exact absurd (h5 e) (by omega)
      · exact e
    have h8 : (q - 1) * d = q * d - d := by rw [Nat.sub_mul, Nat.one_mul]
    exact ⟨by omega, fun hn => ⟨h4 hn, by omega⟩, h6⟩
  · rw [if_neg h]
    have h8 : (q + 1) * d = q * d + d := by rw [Nat.add_mul, Nat.one_mul]
    exact ⟨by omega, fun hn => ⟨by omega, by rw [Nat.add_sub_cancel]; omega⟩, fun hn => absurd (h7 hn) h⟩
/-- CMP -/
theorem fcmp_any (s1 s2 : Bool) (A1 A2 A3 A4 : Option Addr) (c1 c2 c3 c4 n1 d1 n2 d2 : Nat) (w : World) (sg sn : Bool) (nn dn : Nat) (hsn : sn = (!s2 && decide (n2 ≠ 0)))
    (h3 : NS w (.slice A3 (digs n2).length c3) (digs n2)) (h4 : NS w (.slice A4 (digs d2).length c4) (digs d2))
    (CA : ∀ (A5 A6 : Option Addr) (c5 c6 : Nat) (w' : World), Below w.heap.size w w' → NS w' (.slice A5 (digs n2).length c5) (digs n2) → NS w' (.slice A6 (digs d2).length c6) (digs d2) → Calls Tryz.prog 72 #[.agg #[.bool s1, .slice A1 (digs n1).length c1, .slice A2 (digs d1).length c2], .agg #[.bool sn, .slice A5 (digs n2).length c5, .slice A6 (digs d2).length c6]] w' (FracPost sg nn dn w')) :
    Calls Tryz.prog 21 #[.agg #[.bool s1, .slice A1 (digs n1).length c1, .slice A2 (digs d1).length c2], .agg #[.bool s2, .slice A3 (digs n2).length c3, .slice A4 (digs d2).length c4]] w fun e w' => e = .returned (.int .i64 (signI sg (digs nn).length)) ∧ Below w.heap.size w w' :=
  fcmp_of s1 s2 A1 A2 A3 A4 c1 c2 c3 c4 n1 d1 n2 d2 w sg nn dn fun w' b =>
    fsub_of s1 s2 A1 A2 A3 A4 c1 c2 c3 c4 n1 d1 n2 d2 w' sg sn nn dn hsn (h3.keep b) (h4.keep b) fun A5 A6 c5 c6 w'' b2 k1 k2 => CA A5 A6 c5 c6 w'' (chain0 b b2) k1 k2
theorem cmp_hi (A1 A2 A3 A4 : Option Addr) (c1 c2 c3 c4 c n d : Nat) (w : World) (lc : (digs c).length ≤ 1000) (ln : (digs n).length ≤ 1000) (ld : (digs d).length ≤ 1000) (hd : d ≠ 0) (h1 : n ≤ c * d)
    (k1 : NS w (.slice A1 (digs c).length c1) (digs c)) (k2 : NS w (.slice A2 (digs 1).length c2) (digs 1)) (k3 : NS w (.slice A3 (digs n).length c3) (digs n)) (k4 : NS w (.slice A4 (digs d).length c4) (digs d)) :
    Calls Tryz.prog 21 #[.agg #[.bool false, .slice A1 (digs c).length c1, .slice A2 (digs 1).length c2], .agg #[.bool false, .slice A3 (digs n).length c3, .slice A4 (digs d).length c4]] w fun e w' => (∃ s : Int, e = .returned (.int .i64 s) ∧ 0 ≤ s) ∧ Below w.heap.size w w' := by
  by_cases hn : n = 0
  · refine (fcmp_any false false A1 A2 A3 A4 c1 c2 c3 c4 c 1 n d w _ false _ _ (by rw [hn]; rfl) k3 k4 fun A5 A6 c5 c6 w' b q1 q2 => fadd_same false false A1 A2 A5 A6 c1 c2 c5 c6 c 1 n d w' lc (by decide) ln ld (by decide) hd rfl (k1.keep b) (k2.keep b) q1 q2).mono ?_
    rintro e w' ⟨rfl, b⟩
    exact ⟨⟨_, rfl, sign_ge _⟩, b⟩
  · refine (fcmp_any false false A1 A2 A3 A4 c1 c2 c3 c4 c 1 n d w _ true _ _ (by simp [hn]) k3 k4 fun A5 A6 c5 c6 w' b q1 q2 => fadd_yes false true A1 A2 A5 A6 c1 c2 c5 c6 c 1 n d w' lc (by decide) ln ld (by decide) hd (by decide) (by omega) (k1.keep b) (k2.keep b) q1 q2).mono ?_
    rintro e w' ⟨rfl, b⟩
    exact ⟨⟨_, rfl, sign_ge _⟩, b⟩
theorem cmp_lo0 (A1 A2 A3 A4 : Option Addr) (c1 c2 c3 c4 d : Nat) (w : World) (ld : (digs d).length ≤ 1000) (hd : d ≠ 0)
    (k1 : NS w (.slice A1 (digs 1).length c1) (digs 1)) (k2 : NS w (.slice A2 (digs 1).length c2) (digs 1)) (k3 : NS w (.slice A3 (digs 0).length c3) (digs 0)) (k4 : NS w (.slice A4 (digs d).length c4) (digs d)) :
    Calls Tryz.prog 21 #[.agg #[.bool true, .slice A1 (digs 1).length c1, .slice A2 (digs 1).length c2], .agg #[.bool false, .slice A3 (digs 0).length c3, .slice A4 (digs d).length c4]] w fun e w' => e = .returned (.int .i64 (-1)) ∧ Below w.heap.size w w' := by
  refine (fcmp_any true false A1 A2 A3 A4 c1 c2 c3 c4 1 1 0 d w _ false _ _ rfl k3 k4 fun A5 A6 c5 c6 w' b q1 q2 => fadd_yes true false A1 A2 A5 A6 c1 c2 c5 c6 1 1 0 d w' (by decide) (by decide) (by decide) ld (by decide) hd (by decide) (by omega) (k1.keep b) (k2.keep b) q1 q2).mono ?_
  rintro e w' ⟨rfl, b⟩
  refine ⟨?_, b⟩
  rw [show (true && decide (1 * d - 0 * 1 ≠ 0)) = true by simp; exact hd]
  rfl
theorem cmp_lo (A1 A2 A3 A4 : Option Addr) (c1 c2 c3 c4 c n d : Nat) (w : World) (lc : (digs c).length ≤ 1000) (ln : (digs n).length ≤ 1000) (ld : (digs d).length ≤ 1000) (hd : d ≠ 0) (h1 : c * d < n)
    (k1 : NS w (.slice A1 (digs c).length c1) (digs c)) (k2 : NS w (.slice A2 (digs 1).length c2) (digs 1)) (k3 : NS w (.slice A3 (digs n).length c3) (digs n)) (k4 : NS w (.slice A4 (digs d).length c4) (digs d)) :
    Calls Tryz.prog 21 #[.agg #[.bool false, .slice A1 (digs c).length c1, .slice A2 (digs 1).length c2], .agg #[.bool false, .slice A3 (digs n).length c3, .slice A4 (digs d).length c4]] w fun e w' => e = .returned (.int .i64 (-1)) ∧ Below w.heap.size w w' := by
  have hn : n ≠ 0 := by omega
  refine (fcmp_any false false A1 A2 A3 A4 c1 c2 c3 c4 c 1 n d w _ true _ _ (by simp [hn]) k3 k4 fun A5 A6 c5 c6 w' b q1 q2 => fadd_no false true A1 A2 A5 A6 c1 c2 c5 c6 c 1 n d w' lc (by decide) ln ld (by decide) hd (by decide) (by omega) (k1.keep b) (k2.keep b) q1 q2).mono ?_
  rintro e w' ⟨rfl, b⟩
  refine ⟨?_, b⟩
  have h2 : n * 1 - c * d ≠ 0 := by omega
  rw [show (true && decide (n * 1 - c * d ≠ 0)) = true by simp only [Bool.true_and, decide_eq_true_eq]; exact h2]
  rfl
end Fr
end Go.Proofs.YthehchdonmmpaaaGreatDoor
namespace Go.Proofs.YthehchdonmmpaaaGreatDoor.Gn
open Go.ChangeShapes Go.WideShapes Go.ChangeAt Go.RowKit
section
variable {T : Type} {K : Nat} {c : T → List Value}
theorem flat_len (hc : ∀ t, (c t).length = K) : ∀ L : List T, (L.flatMap c).length = L.length * K
  | [] => by simp
  | t :: L => by
    rw [List.flatMap_cons, List.length_append, hc, flat_len hc L, List.length_cons, Nat.succ_mul, Nat.add_comm]
theorem flat_get (hc : ∀ t, (c t).length = K) : ∀ (L : List T) (i r : Nat) (hi : i < L.length), r < K → (L.flatMap c)[i * K + r]? = (c L[i])[r]?
  | t :: L, 0, r, hi, hr => by
    rw [List.flatMap_cons, Nat.zero_mul, Nat.zero_add, List.getElem?_append_left (by rw [hc]; exact hr)]
    rfl
  | t :: L, i + 1, r, hi, hr => by
    have hi' : i < L.length := by simpa using hi
    rw [List.flatMap_cons, List.getElem?_append_right (by rw [hc, Nat.succ_mul]; omega), hc]
    have e : (i + 1) * K + r - K = i * K + r := by rw [Nat.succ_mul]; omega
    rw [e, flat_get hc L i r hi' hr]
    rfl
theorem flat_take (L : List T) (k : Nat) (hk : k < L.length) : (L.take (k + 1)).flatMap c = (L.take k).flatMap c ++ c L[k] := by
  rw [List.take_succ_eq_append_getElem hk, List.flatMap_append, List.flatMap_cons, List.flatMap_nil, List.append_nil]
theorem flat_one (h1 : ∀ t : T, ∀ u ∈ c t, u.oneCell' = true) (L : List T) : ∀ u ∈ L.flatMap c, u.oneCell' = true := by
  intro u hu
  obtain ⟨x, _, hx⟩ := List.mem_flatMap.1 hu
  exact h1 x u hx
end
/-- a row of cells in memory -/
def Row (w : World) (b o : Nat) (xs : List Value) : Prop := ∀ (j : Nat) (u : Value), xs[j]? = some u → w.cell? ⟨b, o + j, none⟩ = some u
theorem Row.below {w w' : World} {b o : Nat} {xs : List Value} (h : Row w b o xs) (hb : b < w.heap.size) (hB : Below w.heap.size w w') : Row w' b o xs := fun j u hu => by
  rw [hB.cell (p := ⟨b, _, none⟩) hb]
  exact h j u hu
theorem Row.elem {w : World} {b o : Nat} {T : Type} {K : Nat} {c : T → List Value} {L : List T} (h : Row w b o (L.flatMap c)) (hc : ∀ t, (c t).length = K) (i : Nat) (hi : i < L.length) (r : Nat) (hr : r < K) (u : Value) (hu : (c L[i])[r]? = some u) : w.cell? ⟨b, o + i * K + r, none⟩ = some u := by
  have := h (i * K + r) u (by rw [flat_get hc L i r hi hr]; exact hu)
  rw [Nat.add_assoc]
  exact this
theorem Row.elem0 {w : World} {b o : Nat} {T : Type} {K : Nat} {c : T → List Value} {L : List T} (h : Row w b o (L.flatMap c)) (hc : ∀ t, (c t).length = K) (i : Nat) (hi : i < L.length) (hr : 0 < K) (u : Value) (hu : (c L[i])[0]? = some u) : w.cell? ⟨b, o + i * K, none⟩ = some u := by
  have := h.elem hc i hi 0 hr u hu
  simpa using this
theorem sl_parts {w : World} {K n : Nat} {v : Value} {xs : List Value} (h : Sl w K v n xs) : ∃ A cap, v = .slice A n cap ∧ n ≤ cap ∧ cap ≤ maxLen ∧ (0 < n → ∃ b o, A = some ⟨b, o, none⟩ ∧ b < w.heap.size ∧ Row w b o xs) := by
  obtain ⟨_, A, cap, h1, h2, h3, h4⟩ := h
  exact ⟨A, cap, h1, h2, h3, h4⟩
theorem own_form {w : World} {base : Nat} {e : TypeId} {size n : Nat} {v : Value} {xs : List Value} (h : w.ownsRow base e size v n xs) : ∃ A c, v = .slice A n c := by
  rcases h.2 with ⟨rfl, rfl⟩ | ⟨g, cap, cur, rfl, _⟩
  · exact ⟨none, 0, rfl⟩
  · exact ⟨_, cap, rfl⟩
theorem cells_new (w : World) (cs : List Value) (t : TypeId) : ∀ j u, cs[j]? = some u → (w.alloc (.cells cs.toArray t)).cell? ((⟨w.heap.size, 0, none⟩ : Addr).add j) = some u := by
  intro j u hu
  rw [OpenAdd.add_at, (Blk.new w t cs.toArray).cell]
  simpa using hu
end Go.Proofs.YthehchdonmmpaaaGreatDoor.Gn
namespace Go.Proofs.YthehchdonmmpaaaGreatDoor.Pr
open Go.ChangeShapes Go.WideShapes Go.ChangeAt Go.RowKit Gn Cat Lex
/-- a seller: its name, the slice of its products, and the numbers that the slice reads as -/
structure Sel where
  name : ByteArray
  v : Value
  ps : List Int
abbrev Sel.cells (x : Sel) : List Value := [.string x.name, x.v]
/-- an invoice -/
structure Inv where
  bidder : Int
  want : Nat → Int
  reserve : Int
  net : Int
  due : Int
abbrev Inv.cells (x : Inv) : List Value := [.int .i64 x.bidder, .int .i64 (x.want 0), .int .i64 (x.want 1), .int .i64 (x.want 2), .int .i64 (x.want 3), .int .i64 (x.want 4), .int .i64 (x.want 5), .int .i64 x.reserve, .int .i64 x.net, .int .i64 x.due]
/-- what a seller receives -/
structure Shr where
  sel : Int
  reserve : Int
  net : Int
abbrev Shr.cells (x : Shr) : List Value := [.int .i64 x.sel, .int .i64 x.reserve, .int .i64 x.net]
theorem sel_len (x : Sel) : x.cells.length = 2 := rfl
theorem inv_len (x : Inv) : x.cells.length = 10 := rfl
theorem shr_len (x : Shr) : x.cells.length = 3 := rfl
abbrev SelS (w : World) (v : Value) (l : List Sel) : Prop := Sl w 2 v l.length (l.flatMap Sel.cells)
abbrev InvS (w : World) (v : Value) (l : List Inv) : Prop := Sl w 10 v l.length (l.flatMap Inv.cells)
abbrev ShrS (w : World) (v : Value) (l : List Shr) : Prop := Sl w 3 v l.length (l.flatMap Shr.cells)
/-- the sellers' own parts read -/
def SelOk (w : World) (l : List Sel) : Prop := ∀ x ∈ l, x.name.size ≤ maxLen ∧ Sl w 1 x.v x.ps.length (x.ps.map fun z => Value.int .i64 z)
theorem SelOk.keep {w w' : World} {l : List Sel} (h : SelOk w l) (b : Below w.heap.size w w') : SelOk w' l := fun x hx => ⟨(h x hx).1, (h x hx).2.keep b⟩
/-- the cells of a row of sellers -/
theorem sel_at {w : World} {b o : Nat} {l : List Sel} (h : Row w b o (l.flatMap Sel.cells)) (k : Nat) (hk : k < l.length) : w.cell? ⟨b, o + k * 2, none⟩ = some (.string l[k].name) ∧ w.cell? ⟨b, o + k * 2 + 1, none⟩ = some l[k].v :=
  ⟨h.elem0 sel_len k hk (by omega) _ rfl, h.elem sel_len k hk 1 (by omega) _ rfl⟩
theorem shr_at {w : World} {b o : Nat} {l : List Shr} (h : Row w b o (l.flatMap Shr.cells)) (k : Nat) (hk : k < l.length) : w.cell? ⟨b, o + k * 3, none⟩ = some (.int .i64 l[k].sel) ∧ w.cell? ⟨b, o + k * 3 + 1, none⟩ = some (.int .i64 l[k].reserve) ∧ w.cell? ⟨b, o + k * 3 + 2, none⟩ = some (.int .i64 l[k].net) :=
  ⟨h.elem0 shr_len k hk (by omega) _ rfl, h.elem shr_len k hk 1 (by omega) _ rfl, h.elem shr_len k hk 2 (by omega) _ rfl⟩
theorem inv_at {w : World} {b o : Nat} {l : List Inv} (h : Row w b o (l.flatMap Inv.cells)) (k : Nat) (hk : k < l.length) :
    w.cell? ⟨b, o + k * 10, none⟩ = some (.int .i64 l[k].bidder) ∧ w.cell? ⟨b, o + k * 10 + 1, none⟩ = some (.int .i64 (l[k].want 0)) ∧ w.cell? ⟨b, o + k * 10 + 2, none⟩ = some (.int .i64 (l[k].want 1)) ∧ w.cell? ⟨b, o + k * 10 + 3, none⟩ = some (.int .i64 (l[k].want 2)) ∧ w.cell? ⟨b, o + k * 10 + 4, none⟩ = some (.int .i64 (l[k].want 3)) ∧ w.cell? ⟨b, o + k * 10 + 5, none⟩ = some (.int .i64 (l[k].want 4)) ∧ w.cell? ⟨b, o + k * 10 + 6, none⟩ = some (.int .i64 (l[k].want 5)) ∧ w.cell? ⟨b, o + k * 10 + 7, none⟩ = some (.int .i64 l[k].reserve) ∧ w.cell? ⟨b, o + k * 10 + 8, none⟩ = some (.int .i64 l[k].net) ∧ w.cell? ⟨b, o + k * 10 + 9, none⟩ = some (.int .i64 l[k].due) :=
  ⟨h.elem0 inv_len k hk (by omega) _ rfl, h.elem inv_len k hk 1 (by omega) _ rfl, h.elem inv_len k hk 2 (by omega) _ rfl, h.elem inv_len k hk 3 (by omega) _ rfl, h.elem inv_len k hk 4 (by omega) _ rfl, h.elem inv_len k hk 5 (by omega) _ rfl, h.elem inv_len k hk 6 (by omega) _ rfl, h.elem inv_len k hk 7 (by omega) _ rfl, h.elem inv_len k hk 8 (by omega) _ rfl, h.elem inv_len k hk 9 (by omega) _ rfl⟩

/-- who owns a product -/
abbrev Own := Nat → Option Nat
def Own.put (o : Own) (k i : Nat) : Own := fun j => if j = k then some i else o j
def takeP (n i : Nat) : List Int → Own → Except Int Own
  | [], o => .ok o
  | k :: r, o => if k < 0 ∨ (n : Int) ≤ k then .error 6 else if (o k.toNat).isSome then .error 7 else takeP n i r (o.put k.toNat i)
def hasName (l : List Sel) (s : ByteArray) : Bool := l.any fun x => eqB x.name s
def ownGo (n : Nat) (l : List Sel) : List Sel → Nat → Own → Except Int Own
  | [], _, o => .ok o
  | x :: r, i, o => if nameOk x.name then (if hasName (l.take i) x.name then .error 7 else match takeP n i x.ps o with | .error e => .error e | .ok o' => ownGo n l r (i + 1) o') else .error 5
def fullO (n : Nat) (o : Own) : Bool := (List.range n).all fun k => (o k).isSome
def ownF (n : Nat) : Except Int Own → Except Int Own
  | .error e => .error e
  | .ok o => if fullO n o then .ok o else .error 6
def ownR (n : Nat) (l : List Sel) : Except Int Own := ownF n (ownGo n l l 0 fun _ => none)
/-- what check computes -/
def selR (ps : List Prod) (l : List Sel) : Except Int Own := if checkE ps = 0 then (if l.length = 0 then .error 1 else if 6 < l.length then .error 3 else ownR ps.length l) else .error (checkE ps)
def errOf : Except Int Own → Int
  | .error e => e
  | .ok _ => 0
theorem ownGo_drop {n : Nat} {l : List Sel} {k : Nat} (hk : k < l.length) (o : Own) : ownGo n l (l.drop k) k o = if nameOk l[k].name then (if hasName (l.take k) l[k].name then .error 7 else match takeP n k l[k].ps o with | .error e => .error e | .ok o' => ownGo n l (l.drop (k + 1)) (k + 1) o') else .error 5 := by
  rw [List.drop_eq_getElem_cons hk, ownGo]
theorem ownGo_end {n : Nat} {l : List Sel} (o : Own) : ownGo n l (l.drop l.length) l.length o = .ok o := by rw [List.drop_length, ownGo]
theorem takeP_drop {n i : Nat} {ps : List Int} {j : Nat} (hj : j < ps.length) (o : Own) : takeP n i (ps.drop j) o = if ps[j] < 0 ∨ (n : Int) ≤ ps[j] then .error 6 else if (o ps[j].toNat).isSome then .error 7 else takeP n i (ps.drop (j + 1)) (o.put ps[j].toNat i) := by
  rw [List.drop_eq_getElem_cons hj, takeP]
theorem takeP_end {n i : Nat} {ps : List Int} (o : Own) : takeP n i (ps.drop ps.length) o = .ok o := by rw [List.drop_length, takeP]
theorem hasName_take {l : List Sel} {k : Nat} (h : k < l.length) (s : ByteArray) : hasName (l.take (k + 1)) s = (hasName (l.take k) s || eqB l[k].name s) := by
  unfold hasName
  rw [List.take_succ_eq_append_getElem h, List.any_append]
  simp
theorem hasName_zero {l : List Sel} (s : ByteArray) : hasName (l.take 0) s = false := by simp [hasName]
/-- the rest of an own-list after a name has been found good -/
def restR (n : Nat) (l : List Sel) (k : Nat) : Except Int Own → Except Int Own
  | .error e => .error e
  | .ok o => ownGo n l (l.drop (k + 1)) (k + 1) o
theorem ownGo_rest {n : Nat} {l : List Sel} {k : Nat} (hk : k < l.length) (o : Own) (h1 : nameOk l[k].name = true) (h2 : hasName (l.take k) l[k].name = false) : ownGo n l (l.drop k) k o = restR n l k (takeP n k l[k].ps o) := by
  rw [ownGo_drop hk, if_pos h1, h2, if_neg (by simp)]
  cases takeP n k l[k].ps o <;> rfl
theorem fullO_iff {n : Nat} {o : Own} : fullO n o = true ↔ ∀ k, k < n → (o k).isSome = true := by simp [fullO]
end Go.Proofs.YthehchdonmmpaaaGreatDoor.Pr
namespace Go.Proofs.YthehchdonmmpaaaGreatDoor
open Go.ChangeShapes Go.WideShapes Go.ChangeAt Go.RowKit
set_option linter.unusedVariables false
set_option linter.unusedSimpArgs false
namespace Am
open Lex (isDig val val_snoc)
def pn (t : ByteArray) (k : Nat) : Nat := val (t.data.toList.take k)
theorem pn_snoc (t : ByteArray) (k : Nat) (h : k < t.size) : pn t (k + 1) = pn t k * 10 + (t[k].toNat - 48) := by
  unfold pn
  rw [List.take_add_one, List.getElem?_eq_getElem (by exact h)]
  exact val_snoc _ _
theorem pn_mono (t : ByteArray) (k : Nat) : pn t k ≤ pn t (k + 1) := by
  by_cases h : k < t.size
  · rw [pn_snoc t k h]; omega
  · unfold pn
    rw [List.take_of_length_le (by show t.size ≤ k; omega), List.take_of_length_le (by show t.size ≤ k + 1; omega)]
    exact Nat.le_refl _
theorem pn_le (t : ByteArray) {j k : Nat} (h : j ≤ k) : pn t j ≤ pn t k := by
  induction k with
  | zero => obtain rfl : j = 0 := by omega
            exact Nat.le_refl _
  | succ k ih =>
    by_cases e : j = k + 1
    · rw [e]; exact Nat.le_refl _
    · exact Nat.le_trans (ih (by omega)) (pn_mono t k)
theorem dig_le {b : UInt8} (h : isDig b = true) : 48 ≤ b.toNat ∧ b.toNat ≤ 57 := by
  unfold isDig at h
  simpa using h
/-- the number so far, cut above a million -/
def cut (n : Nat) : Nat := if n ≤ 1000001 then n else 1000001
theorem cut_le (n : Nat) : cut n ≤ 1000001 := by unfold cut; split <;> omega
theorem cut_step (n d : Nat) (hd : d ≤ 9) : cut (10 * cut n + d) = cut (n * 10 + d) := by
  unfold cut
  by_cases h : n ≤ 1000001
  · rw [if_pos h, Nat.mul_comm]
  · rw [if_neg h, if_neg (by omega), if_neg (by omega)]
/-- what is read -/
def P0 (s : ByteArray) : Prop := s.size = 0
def PBad (s : ByteArray) (m : Nat) : Prop := ∃ h : m < s.size, isDig s[m] = false ∧ ∀ j (h : j < m), isDig (s[j]'(by omega)) = true
def PAll (s : ByteArray) : Prop := ∀ j (h : j < s.size), isDig s[j] = true
theorem parse_cases (s : ByteArray) : s.size = 0 ∨ (∃ m, PBad s m) ∨ (0 < s.size ∧ PAll s) := by
  rcases Nat.eq_zero_or_pos s.size with h | h
  · exact .inl h
  · right
    by_cases hx : ∃ m, m < s.size ∧ ∀ hm : m < s.size, isDig s[m] = false
    · left
      obtain ⟨m, ⟨h1, h2⟩, hmin⟩ : ∃ m, (m < s.size ∧ ∀ hm : m < s.size, isDig s[m] = false) ∧ ∀ j, j < m → ¬ (j < s.size ∧ ∀ hj : j < s.size, isDig s[j] = false) := by
        obtain ⟨m, hm⟩ := hx
        induction m using Nat.strongRecOn with
        | _ m ih =>
          by_cases hj : ∃ j, j < m ∧ (j < s.size ∧ ∀ hj : j < s.size, isDig s[j] = false)
          · obtain ⟨j, hlt, hp⟩ := hj
            exact ih j hlt hp
          · exact ⟨m, hm, fun j hlt hp => hj ⟨j, hlt, hp⟩⟩
      refine ⟨m, h1, h2 h1, fun j hj => ?_⟩
      have := hmin j hj
      rcases hd : isDig (s[j]'(by omega)) with _ | _
      · exact absurd ⟨by omega, fun _ => hd⟩ this
      · rfl
    · right
      refine ⟨h, fun j hj => ?_⟩
      rcases hd : isDig s[j] with _ | _
      · exact absurd ⟨j, hj, fun _ => hd⟩ hx
      · rfl
/-- the result of reading an amount -/
inductive Reads (s : ByteArray) : Int → Int → Prop
  | short (h : s.size = 0) : Reads s 0 1
  | bad (m : Nat) (h : PBad s m) : Reads s 0 2
  | zero (h : 1 < s.size) (ha : PAll s) (h0 : s[0].toNat = 48) : Reads s 0 2
  | big (h : 0 < s.size) (ha : PAll s) (h0 : ¬ (1 < s.size ∧ s[0].toNat = 48)) (hb : 1000000 < pn s s.size) : Reads s 0 4
  | ok (h : 0 < s.size) (ha : PAll s) (h0 : ¬ (1 < s.size ∧ s[0].toNat = 48)) (hb : pn s s.size ≤ 1000000) : Reads s ((pn s s.size : Nat) : Int) 0
theorem reads_any (s : ByteArray) : ∃ v e, Reads s v e := by
  rcases parse_cases s with h | ⟨m, h⟩ | ⟨h, ha⟩
  · exact ⟨_, _, .short h⟩
  · exact ⟨_, _, .bad m h⟩
  · by_cases h0 : 1 < s.size ∧ s[0].toNat = 48
    · exact ⟨_, _, .zero h0.1 ha h0.2⟩
    · by_cases hb : pn s s.size ≤ 1000000
      · exact ⟨_, _, .ok h ha h0 hb⟩
      · exact ⟨_, _, .big h ha h0 (by omega)⟩
theorem tl_ne {s : ByteArray} (h : 0 < s.size) : s.toList.isEmpty = false := by
  rw [ByteArray.toList_eq]
  obtain ⟨⟨x⟩⟩ := s
  cases x with
  | nil => exact absurd h (Nat.lt_irrefl 0)
  | cons a b => rfl
theorem min_cut (c d : Nat) : (if (1000001 : Int) < 10 * (c : Int) + (d : Int) then (1000001 : Int) else 10 * (c : Int) + (d : Int)) = ((cut (10 * c + d) : Nat) : Int) := by
  unfold cut
  by_cases h : 10 * c + d ≤ 1000001
  · rw [if_pos h, if_neg (by omega)]; omega
  · rw [if_neg h, if_pos (by omega)]; rfl
def ParsePost (v e0 : Int) (w : World) (e : Ending) (w' : World) : Prop := e = .returned (.tuple #[.int .i64 v, .int .i64 e0]) ∧ w = w'
theorem byte_facts {b : UInt8} (h : isDig b = true) : ∃ c d : Nat, (c = b.toNat ∧ d = c - 48 ∧ d ≤ 9) ∧ decide ((c : Int) < 48) = false ∧ decide ((57 : Int) < (c : Int)) = false ∧ IntKind.u8.wrap ((c : Int) - 48) = ((d : Nat) : Int) ∧ (c : Int) - 48 = ((d : Nat) : Int) ∧ IntKind.i64.wrap ((d : Nat) : Int) = ((d : Nat) : Int) := by
  have := dig_le h
  refine ⟨b.toNat, b.toNat - 48, ⟨rfl, rfl, by omega⟩, decide_eq_false (by omega), decide_eq_false (by omega), ?_, by omega, IntWalk.i64_in _ (by omega)⟩
  rw [IntWalk.u8_in _ (by omega)]
  omega
end Am
end Go.Proofs.YthehchdonmmpaaaGreatDoor
namespace Go.Proofs.YthehchdonmmpaaaGreatDoor
open Go.ChangeShapes Go.WideShapes Go.ChangeAt Go.RowKit
set_option linter.unusedVariables false
set_option linter.unusedSimpArgs false
namespace Am
open Lex (isDig val val_snoc)
end Am
end Go.Proofs.YthehchdonmmpaaaGreatDoor
namespace Go.Proofs.YthehchdonmmpaaaGreatDoor
open Go.ChangeShapes Go.WideShapes Go.ChangeAt Go.RowKit
set_option linter.unusedVariables false
set_option linter.unusedSimpArgs false
namespace Am
theorem grow_below (w : World) (q : Nat) (os : Array Obj) : Below w.heap.size w (Go.Sort.grow (w.drewN q) os) :=
  ⟨rfl, rfl, rfl, by first | (simp [Go.Sort.grow]; done) | (simp [Go.Sort.grow]; omega), fun i hi => by
    show ((w.drewN q).heap ++ os)[i]? = _
    rw [Array.getElem?_append_left (by show i < w.heap.size; omega)]
    rfl⟩
/-- the table of the library's formatter stands in memory -/
abbrev Tab (w : World) : Prop := Lib.TabIs Tryz.prog w "internal/strconv.uint64pow10" .u64 Lib.pow10Tab
theorem conv_digit (W : World) (g : Nat) (x : Int) (h0 : 0 ≤ x) (h1 : x ≤ 255) (hc : W.cell? ⟨g, 0, none⟩ = some (.int .u8 x)) : (convert 101 9 (.slice (some ⟨g, 0, none⟩) 1 1)).run Tryz.prog W = .ok (.string ⟨#[UInt8.ofNat x.toNat]⟩) W := by
  have := run_convert_bytes_back (P := Tryz.prog) W 101 9 5 ⟨g, 0, none⟩ 1 [UInt8.ofNat x.toNat] (by kernel_rfl) (by kernel_rfl) (by kernel_rfl) ?_
  · exact this
  · intro j hj
    obtain rfl : j = 0 := by simpa using hj
    show W.cell? ⟨g, 0, none⟩ = _
    have e : ((UInt8.ofNat x.toNat).toNat : Int) = x := by simp; omega
    rw [show [UInt8.ofNat x.toNat][0] = UInt8.ofNat x.toNat from rfl, e]
    exact hc
theorem add_small (a b : ByteArray) (h : a.size ≤ 2000) (h2 : b.size ≤ 2000) (W : World) : (Op.stringOp .add a b).run Tryz.prog W = .ok (.string (a ++ b)) W := run_string_add_sum W _ _ (by omega)
theorem dec_small {u : Nat} (h : u < 10) : Lib.decDigits u = [UInt8.ofNat (48 + u)] := by rw [Lib.decDigits, dif_pos h]
theorem dec_big {u : Nat} (h : ¬ u < 10) : Lib.decDigits u = Lib.decDigits (u / 10) ++ [UInt8.ofNat (48 + u % 10)] := by
  conv => lhs; rw [Lib.decDigits]
  rw [dif_neg h]
theorem dec_len : ∀ (k u : Nat), u < 10 ^ (k + 1) → (Lib.decDigits u).length ≤ k + 1
  | 0, u, h => by
    rw [Nat.zero_add, Nat.pow_one] at h
    rw [dec_small h]
    exact Nat.le_refl _
  | k + 1, u, h => by
    by_cases h9 : u < 10
    · rw [dec_small h9]; simp
    · rw [dec_big h9, List.length_append]
      have := dec_len k (u / 10) (Nat.div_lt_of_lt_mul (by rw [Nat.pow_succ, Nat.mul_comm] at h; exact h))
      simp only [List.length_cons, List.length_nil]
      omega
def U64 : Nat := 18446744073709551616
theorem dec_len20 {n : Nat} (h : n < U64) : (Lib.decDigits n).length ≤ 20 := dec_len 19 n (Nat.lt_of_lt_of_le h (by decide))
theorem ba_cons (x : UInt8) (s : ByteArray) : (⟨#[x]⟩ ++ s : ByteArray).data.toList = x :: s.data.toList := by simp [ByteArray.data_append]
theorem ba_size (s : ByteArray) : s.size = s.data.toList.length := rfl
theorem ba_of {s : ByteArray} {l : List UInt8} (h : s.data.toList = l) : s = ⟨l.toArray⟩ := by
  apply ByteArray.ext
  rw [← h]
/-- one digit -/
theorem digit_facts (m : Nat) : ∃ d : Nat, (d = m % 10 ∧ d ≤ 9) ∧ (m : Int) % 10 = (d : Int) ∧ (48 + (d : Int)).toNat = 48 + d := ⟨m % 10, ⟨rfl, by omega⟩, by omega, by omega⟩
def fmtPost (v : Int) (w : World) (e : Ending) (w' : World) : Prop := e = .returned (.string ⟨(Lib.itoa v).toArray⟩) ∧ Below w.heap.size w w'
theorem format_any (v : Int) (w : World) (h0 : -9223372036854775808 ≤ v) (h1 : v ≤ 9223372036854775807) (ht : Tab w) : Calls Tryz.prog 29 #[.int .i64 v] w (fmtPost v w) := by
  have C := Lib.hid (Tryz.strconv_FormatInt_10 v h0 h1 w ht)
  clear h0 h1 ht
  go_enter Tryz.func29, Tryz.ntmps29
  go_wp2_with fail
  refine C.out.mono ?_
  rintro e w1 ⟨rfl, k, os, hw⟩
  have B1 : Hid (Below w.heap.size w w1) := by rw [hw]; exact grow_below w k os
  clear hw
  go_wp2_with fail
  go_ret
  exact ⟨rfl, B1.out⟩
end Am
end Go.Proofs.YthehchdonmmpaaaGreatDoor
namespace Go.Proofs.YthehchdonmmpaaaGreatDoor.AmT
open Go.ChangeShapes Go.WideShapes Go.ChangeAt Go.RowKit Go.Proofs.YthehchdonmmpaaaGreatDoor.Am

abbrev laid3 : List (String × DataW Unit) := [("math/bits.deBruijn32tab", Rows.laid_math_bits_deBruijn32tab), ("math/bits.deBruijn64tab", Rows.laid_math_bits_deBruijn64tab), ("internal/strconv.uint64pow10", Rows.laid_internal_strconv_uint64pow10)]

def VarReads (P : Program) (w : World) (n : String) (d : DataW Unit) : Prop :=
  ∃ g t cs fuel p, P.globalNamed n = some g ∧ (P.globals[g]?).map (·.type) = some t ∧ w.var? P n = some cs ∧ DataW.trod (fun _ => ()) P w 0 (fun _ => true) false fuel t cs.toList = some (d, p)
theorem vars_read {P : Program} {w : World} : ∀ {l : List (String × DataW Unit)} {ps : List MemPlace}, DataW.LaidVars P w l ps → ∀ n d, (n, d) ∈ l → VarReads P w n d
  | [], _, _, _, _, hm => by cases hm
  | (n', d') :: r, ps, h, n, d, hm => by
    obtain ⟨g, t, cs, fuel, p, q, h1, h2, h3, h4, h5, _⟩ := h
    rcases List.mem_cons.1 hm with e | e
    · cases e
      exact ⟨g, t, cs, fuel, p, h1, h2, h3, h4⟩
    · exact vars_read h5 n d e
theorem tab_eq : (Rows.laid_internal_strconv_uint64pow10 : DataW Unit) = Lib.tabData .u64 Lib.pow10Tab := by kernel_rfl
theorem ty_tab : ∃ t e, (Tryz.prog.globals[0]?).map (·.type) = some t ∧ Tryz.prog.underlying t = some (.array 20 e) ∧ Tryz.prog.underlying e = some (.int .u64) ∧ Tryz.prog.cellsOf e = 1 ∧ Tryz.prog.cellsOf t = 20 := ⟨157, 95, by kernel_rfl, by kernel_rfl, by kernel_rfl, by kernel_rfl, by kernel_rfl⟩
theorem g_tab : Tryz.prog.globalNamed "internal/strconv.uint64pow10" = some 0 := by kernel_rfl
theorem tab_of {W : World} (h : laidMetH Tryz.prog laid3 W) : Tab W := by
  rw [MakeChecks.laidMetH_plain _ _ _ (by kernel_rfl)] at h
  obtain ⟨ps, hv, _⟩ := h
  obtain ⟨g, t, cs, fuel, p, hg, ht, hvar, hd⟩ := vars_read hv "internal/strconv.uint64pow10" Rows.laid_internal_strconv_uint64pow10 (by simp)
  obtain ⟨t', e, k1, k2, k3, k4, k5⟩ := ty_tab
  obtain rfl := Option.some.inj (g_tab.symm.trans hg)
  obtain rfl := Option.some.inj (k1.symm.trans ht)
  rw [tab_eq] at hd
  show Lib.TabIs _ _ _ _ _
  unfold Lib.TabIs
  rw [hvar, ← Lib.cells_of_tab k2 k3 k4 k5 hd]
end Go.Proofs.YthehchdonmmpaaaGreatDoor.AmT
namespace Go.Proofs.YthehchdonmmpaaaGreatDoor.OpenG
open Go.ChangeShapes Go.WideShapes Go.ChangeAt Go.RowKit Go.Joins Go.Deep
theorem list_of {T : Type} {R : Nat → T → Prop} : ∀ n : Nat, (∀ i, i < n → ∃ x : T, R i x) → ∃ L : List T, L.length = n ∧ ∀ i (h : i < L.length), R i L[i]
  | 0, _ => ⟨[], rfl, fun i h => by simp at h⟩
  | n + 1, h => by
    obtain ⟨L, hl, hL⟩ := list_of n (fun i hi => h i (by omega))
    obtain ⟨x, hx⟩ := h n (by omega)
    refine ⟨L ++ [x], by simp [hl], fun i hi => ?_⟩
    by_cases e : i < L.length
    · rw [List.getElem_append_left e]
      exact hL i e
    · obtain rfl : i = L.length := by simp at hi; omega
      rw [List.getElem_append_right (Nat.le_refl _)]
      simp only [Nat.sub_self, List.getElem_cons_zero]
      rw [hl]
      exact hx
/-- the cells of a list of elements of K cells each, one by one -/
theorem flat_at {T : Type} {K : Nat} {c : T → List Value} (hc : ∀ t, (c t).length = K) : ∀ (L : List T) (j : Nat) (u : Value), (L.flatMap c)[j]? = some u → ∃ i r, ∃ h : i < L.length, r < K ∧ j = i * K + r ∧ (c L[i])[r]? = some u
  | [], j, u, h => by simp at h
  | t :: L, j, u, h => by
    rw [List.flatMap_cons] at h
    by_cases hj : j < K
    · rw [List.getElem?_append_left (by rw [hc]; exact hj)] at h
      exact ⟨0, j, by simp, hj, by simp, h⟩
    · rw [List.getElem?_append_right (by rw [hc]; omega), hc] at h
      obtain ⟨i, r, hi, hr, e, hu⟩ := flat_at hc L (j - K) u h
      exact ⟨i + 1, r, by simpa using hi, hr, by rw [Nat.succ_mul]; omega, by simpa using hu⟩
section
variable {H : Type} {enc : TypeId × Value → H} {P : Program} {w : World} {base : Nat} {spare : Nat → Bool} {held : Bool}
/-- the cells of an element, at an address without a spot -/
theorem cells_at {a : Addr} {n : Nat} {cs : List Value} (hn : 0 < n) (h : w.cells? base a n = some cs) : a.spot = none ∧ cs.length = n ∧ ∀ j, j < n → w.cell? ⟨a.block, a.off + j, none⟩ = cs[j]? := by
  obtain ⟨_, hl, hc⟩ := World.cells?_some h
  have h0 := hc 0 hn
  have hs : a.spot = none := by
    have e : cs[0]? = some (cs[0]'(by omega)) := List.getElem?_eq_getElem (by omega)
    rw [e] at h0
    have := World.cell?_spot h0
    simpa [Addr.add] using this
  refine ⟨hs, hl, fun j hj => ?_⟩
  rw [← hc j hj]
  obtain ⟨b, o, s⟩ := a
  subst hs
  rw [OpenAdd.add_at]
/-- what a list of elements says of a slice's datum -/
def Elems {T : Type} (Q : T → DataW H → Prop) (L : List T) (d : DataW H) : Prop :=
  (L = [] ∧ d = .nil) ∨ ∃ el sp, d = .slice el sp ∧ el.length = L.length ∧ ∀ i (h : i < L.length) (h' : i < el.length), Q L[i] el[i]
theorem open_list {T : Type} (K : Nat) (c : T → List Value) (Q : T → DataW H → Prop) (hK : 0 < K) (hc : ∀ t, (c t).length = K) {r : Reach} {b0 : Nat} {t e : TypeId} {v : Value} {d : DataW H} {ps : List MemPlace} (ht : P.underlying t = some (.slice e)) (hC : P.cellsOf e = K)
    (dec : ∀ fuel cs y, DataW.trod enc P w base spare held fuel e cs = some y → ∃ x : T, cs = c x ∧ Q x y.1)
    (hv : Value.okWide P w r b0 t v) (h : DataW.Trod enc P w base spare held t v d ps) :
    ∃ (A : Option Addr) (cap : Nat) (L : List T), v = .slice A L.length cap ∧ L.length ≤ cap ∧ cap ≤ maxLen ∧
      (0 < L.length → ∃ b o, A = some ⟨b, o, none⟩ ∧ b < w.heap.size ∧ ∀ j u, (L.flatMap c)[j]? = some u → w.cell? ⟨b, o + j, none⟩ = some u) ∧ Elems Q L d := by
  obtain ⟨a, n, cap, rfl⟩ := okWide_slice ht hv
  obtain ⟨fuel, hf⟩ := h
  rcases open_slice ht hf with ⟨hcs, hx⟩ | ⟨x, l, cp, m, k, D, Pl, hcs, _, hl, hm, hmm, hx, hi⟩
  · simp [Value.cells] at hcs
    obtain ⟨rfl, rfl, rfl⟩ := hcs
    simp only [Prod.mk.injEq] at hx
    exact ⟨none, 0, [], rfl, Nat.le_refl _, by unfold maxLen; omega, fun h => absurd h (by simp), .inl ⟨rfl, hx.1⟩⟩
  · simp [Value.cells] at hcs
    obtain ⟨rfl, rfl, rfl⟩ := hcs
    simp only [Prod.mk.injEq] at hx
    have hstep : ∀ i, i < n → ∃ y : T, w.cells? base (x.add (i * K)) K = some (c y) ∧ Q y (D i) := fun i hin => by
      have him : i < m := by rw [hmm]; split <;> omega
      obtain ⟨cs', h1, h2⟩ := hi i him
      obtain ⟨y, rfl, hq⟩ := dec _ _ _ h2
      rw [hC] at h1
      exact ⟨y, h1, hq⟩
    obtain ⟨L, hlen, hL⟩ := list_of n hstep
    refine ⟨some x, cap, L, by rw [hlen], by rw [hlen]; exact hl, hm, fun hn => ?_, .inr ⟨_, _, hx.1, by simp [hlen], fun i h1 h2 => ?_⟩⟩
    · have hs : x.spot = none := by
        have := (cells_at hK (hL 0 hn).1).1
        simpa [Addr.add] using this
      obtain ⟨b, off, sp⟩ := x
      subst hs
      have hcell : ∀ i (hi : i < L.length) r, r < K → w.cell? ⟨b, off + i * K + r, none⟩ = (c L[i])[r]? := fun i hi r hr => by
        have h1 := (hL i hi).1
        rw [OpenAdd.add_at] at h1
        exact (cells_at hK h1).2.2 r hr
      have hfirst : ∃ u, w.cell? ⟨b, off + 0 * K + 0, none⟩ = some u := by
        rw [hcell 0 hn 0 hK]
        exact ⟨_, List.getElem?_eq_getElem (by rw [hc]; exact hK)⟩
      obtain ⟨u0, hu0⟩ := hfirst
      refine ⟨b, off, rfl, block_lt_of_cell hu0, fun j u hj => ?_⟩
      obtain ⟨i, r, hi, hr, e, hu⟩ := flat_at hc L j u hj
      rw [e, ← Nat.add_assoc, hcell i hi r hr]
      exact hu
    · have := (hL i h1).2
      simpa using this
/-- one field of a struct of one-cell fields -/
theorem field_at {fs : Array Field} {cs : List Value} {xs : List (DataW H × List MemPlace)} {n : Nat} (hone : oneCellFields P fs = true)
    (hf : ∀ (i : Nat) (f : Field), fs[i]? = some f → DataW.trod enc P w base spare held n f.type ((cs.drop f.offset).take (P.cellsOf f.type)) = xs[i]?) (j : Nat) (f : Field) (hj : fs[j]? = some f) (hl : j < cs.length) (hx : j < xs.length) :
    DataW.trod enc P w base spare held n f.type [cs[j]] = some xs[j] := by
  obtain ⟨ho, hk⟩ := hone_of hone j f hj
  have h1 := hf j f hj
  rw [ho, hk] at h1
  have e : (cs.drop j).take 1 = [cs[j]] := by
    rw [List.drop_eq_getElem_cons hl]
    rfl
  rw [e, List.getElem?_eq_getElem hx] at h1
  exact h1
end
end Go.Proofs.YthehchdonmmpaaaGreatDoor.OpenG
namespace Go.Proofs.YthehchdonmmpaaaGreatDoor.OpenC
open Go.ChangeShapes Go.WideShapes Go.ChangeAt Go.RowKit Go.Joins Go.Deep
open Cat
section
variable {H : Type} {enc : TypeId × Value → H} {w : World} {base : Nat} {spare : Nat → Bool} {held : Bool}
section
variable {P : Program}
theorem array6 {α : Type} {cs : Array α} (h : cs.size = 6) : ∃ c0 c1 c2 c3 c4 c5, cs = #[c0, c1, c2, c3, c4, c5] := by
  obtain ⟨l⟩ := cs
  match l, h with
  | [c0, c1, c2, c3, c4, c5], _ => exact ⟨c0, c1, c2, c3, c4, c5, rfl⟩
def sel6 (a b c d e f : Int) : Nat → Int
  | 0 => a
  | 1 => b
  | 2 => c
  | 3 => d
  | 4 => e
  | _ => f
theorem open_arr6 {r : Reach} {b0 : Nat} {t e : TypeId} {v : Value} {d : DataW H} {ps : List MemPlace} (ht : P.underlying t = some (.array 6 e)) (he : P.underlying e = some (.int .i64)) (hC : P.cellsOf t = 6) (hCe : P.cellsOf e = 1)
    (hv : Value.okWide P w r b0 t v) (h : DataW.Trod enc P w base spare held t v d ps) : ∃ p : Nat → Int, v = .agg (Cat.arr p) ∧ ∀ k, k < 6 → (Lit.int .i64 (p k)).wf = true := by
  have hcs : ∃ cs, v = .agg cs ∧ cs.size = P.cellsOf t := by
    simp only [Value.okWide, ht] at hv
    obtain ⟨cs, h1, h2, _⟩ := hv
    exact ⟨cs, h1, h2⟩
  obtain ⟨cs, rfl, hsz⟩ := hcs
  obtain ⟨c0, c1, c2, c3, c4, c5, rfl⟩ := array6 (hsz.trans hC)
  obtain ⟨fuel, hf⟩ := h
  obtain ⟨xs, m, _, _, _, hlen, hg⟩ := DataW.trod_array ht hf
  have step : ∀ i, i < 6 → ∃ n, ((([c0, c1, c2, c3, c4, c5] : List Value).drop (i * 1)).take 1) = [.int .i64 n] ∧ (Lit.int .i64 n).wf = true := by
    intro i hi
    have h1 := hg i hi
    rw [hCe] at h1
    have h2 : xs[i]? = some (xs[i]'(by omega)) := List.getElem?_eq_getElem (by omega)
    rw [h2] at h1
    obtain ⟨n, e1, _, wn⟩ := DataW.trod_int he h1
    exact ⟨n, by simpa [Value.cells] using e1, wn⟩
  obtain ⟨n0, e0, w0⟩ := step 0 (by omega)
  obtain ⟨n1, e1, w1⟩ := step 1 (by omega)
  obtain ⟨n2, e2, w2⟩ := step 2 (by omega)
  obtain ⟨n3, e3, w3⟩ := step 3 (by omega)
  obtain ⟨n4, e4, w4⟩ := step 4 (by omega)
  obtain ⟨n5, e5, w5⟩ := step 5 (by omega)
  simp at e0 e1 e2 e3 e4 e5
  subst e0 e1 e2 e3 e4 e5
  refine ⟨sel6 n0 n1 n2 n3 n4 n5, rfl, ?_⟩
  intro k hk
  obtain rfl | rfl | rfl | rfl | rfl | rfl : k = 0 ∨ k = 1 ∨ k = 2 ∨ k = 3 ∨ k = 4 ∨ k = 5 := by omega
  all_goals assumption
end
theorem prod_fields : ∃ f0 f1 f2 f3 f4 : Field, Tryz.prog.underlying 49 = some (.struct #[f0, f1, f2, f3, f4]) ∧ oneCellFields Tryz.prog #[f0, f1, f2, f3, f4] = true ∧ Tryz.prog.underlying f0.type = some .string ∧ Tryz.prog.underlying f1.type = some (.int .i64) ∧ Tryz.prog.underlying f2.type = some (.int .i64) ∧ Tryz.prog.underlying f3.type = some (.int .i64) ∧ Tryz.prog.underlying f4.type = some (.int .i64) :=
  ⟨_, _, _, _, _, Tryz.underlying49, by kernel_rfl, by kernel_rfl, by kernel_rfl, by kernel_rfl, by kernel_rfl, by kernel_rfl⟩
def ProdD (t : Prod) (_ : DataW H) : Prop := t.name.size ≤ maxLen
set_option maxRecDepth 100000 in
theorem dec_prod (fuel : Nat) (cs : List Value) (y : DataW H × List MemPlace) (h : DataW.trod enc Tryz.prog w base spare held fuel 49 cs = some y) : ∃ t : Prod, cs = t.cells ∧ ProdD t y.1 := by
  obtain ⟨f0, f1, f2, f3, f4, hs, hone, k0, k1, k2, k3, k4⟩ := prod_fields
  obtain ⟨xs, n, _, rfl, hl, hxl, hf⟩ := DataW.trod_struct hs h
  have hC : Tryz.prog.cellsOf 49 = 5 := by kernel_rfl
  rw [hC] at hl
  match cs, hl, xs, hxl, hf with
  | [c0, c1, c2, c3, c4], _, [x0, x1, x2, x3, x4], _, hf =>
    obtain ⟨s, e0, _, z1⟩ := DataW.trod_string k0 (OpenG.field_at hone hf 0 f0 rfl (by simp) (by simp))
    obtain ⟨a, e1, _, _⟩ := DataW.trod_int k1 (OpenG.field_at hone hf 1 f1 rfl (by simp) (by simp))
    obtain ⟨b, e2, _, _⟩ := DataW.trod_int k2 (OpenG.field_at hone hf 2 f2 rfl (by simp) (by simp))
    obtain ⟨c, e3, _, _⟩ := DataW.trod_int k3 (OpenG.field_at hone hf 3 f3 rfl (by simp) (by simp))
    obtain ⟨e, e4, _, _⟩ := DataW.trod_int k4 (OpenG.field_at hone hf 4 f4 rfl (by simp) (by simp))
    simp at e0 e1 e2 e3 e4
    subst e0 e1 e2 e3 e4
    exact ⟨⟨s, a, b, c, e⟩, rfl, z1⟩
theorem elems_all {T : Type} {p : T → Prop} {L : List T} {d : DataW H} (h : OpenG.Elems (fun t (_ : DataW H) => p t) L d) : ∀ t ∈ L, p t := by
  rcases h with ⟨rfl, _⟩ | ⟨el, sp, _, hl, hq⟩
  · intro t ht; cases ht
  · intro t ht
    obtain ⟨i, hi, rfl⟩ := List.getElem_of_mem ht
    exact hq i hi (by omega)
set_option maxRecDepth 100000 in
theorem open_prodL {r : Reach} {b0 : Nat} {v : Value} {d : DataW H} {ps : List MemPlace} (hv : Value.okWide Tryz.prog w r b0 22 v) (h : DataW.Trod enc Tryz.prog w base spare held 22 v d ps) :
    ∃ L : List Prod, PS w v L ∧ ∀ p ∈ L, p.name.size ≤ maxLen := by
  obtain ⟨A, cap, L, rfl, h1, h2, h3, h4⟩ := OpenG.open_list 5 Prod.cells ProdD (by decide) (fun _ => rfl) Tryz.underlying22 (by kernel_rfl) dec_prod hv h
  exact ⟨L, ⟨prodCells_len L, A, cap, rfl, h1, h2, h3⟩, elems_all h4⟩
end
end Go.Proofs.YthehchdonmmpaaaGreatDoor.OpenC
