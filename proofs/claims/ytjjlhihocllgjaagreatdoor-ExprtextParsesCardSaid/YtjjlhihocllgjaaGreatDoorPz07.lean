/- Plain laws on append, over any program: from a slice that reads as a list, nil and empty ones too; as one step of a region that draws. Plain laws on slices whose elements take several cells each, over any program. Plain: bidders, and what the roster computes. Contracts of Find of both. Printed by gen_ros.py. Contracts of Points, Reserve, Units. Printed by gen_catF.py. Contract of the reference's Sums. Contracts of fits and of the reference's Fits. -/
import Derived.Test.YtjjlhihocllgjaaGreatDoorPz01
import Derived.OwnWalk
import Derived.Test.YtjjlhihocllgjaaGreatDoorPz06
import Derived.Deep.RegionHeld3
namespace Go.Proofs.YtjjlhihocllgjaaGreatDoor
open Go.ChangeShapes Go.WideShapes Go.ChangeAt Go.RowKit
section
variable {P : Program} (w : World)
/-- append of no elements onto a row of the call's own -/
theorem run_append_zero (base : Nat) (t ty e : TypeId) (i : TypeInfo) (size : Nat) (ht : P.underlying t = some (.slice e)) (hi : P.info? e = some i)
    (v : Value) (n : Nat) (xs : List Value) (hown : w.ownsRow base e size v n xs) (A : Option Addr) (c : Nat) : (Builtin.append_ #[t, t] ty #[v, .slice A 0 c]).run P w = .ok v w := by
  rcases hown.2 with ⟨rfl, rfl⟩ | ⟨g, cap, cur, rfl, _, _, hnc, _⟩
  · cases A with
    | none => simp [Builtin.append_, run_underlying ht, sizeOf, typeInfo, hi, Builtin.lenOf, Builtin.firstCells]
    | some a => simp [Builtin.append_, run_underlying ht, sizeOf, typeInfo, hi, Builtin.lenOf, Builtin.firstCells, loadCells, loadCellsFrom]
  · cases A with
    | none => simp [Builtin.append_, run_underlying ht, sizeOf, typeInfo, hi, Builtin.lenOf, Builtin.firstCells, hnc, storeCells]
    | some a => simp [Builtin.append_, run_underlying ht, sizeOf, typeInfo, hi, Builtin.lenOf, Builtin.firstCells, loadCells, loadCellsFrom, hnc, storeCells]
/-- append of a slice that reads as a list onto a row of the call's own -/
theorem run_append_sl (base : Nat) (t ty e : TypeId) (i : TypeInfo) (z : Value) (size bytes : Nat) (ht : P.underlying t = some (.slice e)) (hi : P.info? e = some i) (hz : i.zero = some z)
    (hsize : i.size = size) (hby : i.bytes = bytes) (hzs : z.cells.size = size) (hsz : 0 < size)
    (v : Value) (n : Nat) (xs : List Value) (hown : w.ownsRow base e size v n xs) (u : Value) (m : Nat) (news : List Value) (hu : Sl w size u m news) (h1 : ∀ u ∈ news, u.oneCell' = true)
    (h63 : n + m ≤ maxLen) (hbytes : (n + m) * bytes ≤ 140737488355328) (hbase : base ≤ w.heap.size) :
    ∃ v' w', (Builtin.append_ #[t, t] ty #[v, u]).run P w = .ok v' w' ∧ w'.ownsRow base e size v' (n + m) (xs ++ news) ∧ w.grownBy w' v.ownBlock := by
  obtain ⟨hl, A, c, rfl, _, _, hr⟩ := hu
  rcases Nat.eq_zero_or_pos m with h0 | h0
  · subst h0
    have hn : news = [] := List.eq_nil_of_length_eq_zero (by simpa using hl)
    subst hn
    exact ⟨v, w, run_append_zero w base t ty e i size ht hi v n xs hown A c, by simpa using hown, World.grownBy.refl w _⟩
  · obtain ⟨b, o, rfl, _, hc⟩ := hr h0
    obtain ⟨v', w', h2, h3, h4, _⟩ := run_append_own (P := P) w base t ty e i z size bytes ht hi hz hsize hby hzs hsz v n xs hown ⟨b, o, none⟩ m c news hl (fun j u hj => by rw [OpenAdd.add_at]; exact hc j u hj) h1 h63 hbytes hbase
    exact ⟨v', w', h2, h3, h4⟩
theorem wp_append_run {o : Oper} {a : Act} {K : Act → World → Prop} {Q : Exit → Act → World → Prop} (s x : Operand) (t t2 : TypeId)
    (ho : o.op = .call { callee := .builtin .append, args := #[s, x], argTypes := #[t, t2] }) (v u : Value) (hs : a.eval s = v) (hx : a.eval x = u) (r : Value) (w' : World)
    (hr : (Builtin.append_ #[t, t2] o.type #[v, u]).run P w = .ok r w') (h : K (a.put o.dst r) w') : o.wp P a w K Q := by
  unfold Oper.wp execOp
  simp only [ho, resolve, invoke, builtin, Sem.run_bind, Sem.run_pure, Result.andThen_ok, List.map_toArray, List.map_cons, List.map_nil, hs, hx, hr]
  exact h
/-- an append whose run is known -/
theorem wpList_append_run {ops : Array Oper} {rest : List Oper} {o : Oper} {a : Act} {Q : Exit → Act → World → Prop} (hgd : o.guard = none) (s x : Operand) (t t2 : TypeId)
    (ho : o.op = .call { callee := .builtin .append, args := #[s, x], argTypes := #[t, t2] }) (v u : Value) (hs : a.eval s = v) (hx : a.eval x = u) (r : Value) (w' : World)
    (hr : (Builtin.append_ #[t, t2] o.type #[v, u]).run P w = .ok r w') (h : wpList P ops Q rest (a.put o.dst r) w') : wpList P ops Q (o :: rest) a w :=
  wpList_plain hgd fun _ hK => wp_append_run w s x t t2 ho v u hs hx r w' hr (hK _ _ h)
theorem wpList_append_sl {ops : Array Oper} {rest : List Oper} {o : Oper} {a : Act} {Q : Exit → Act → World → Prop} (hgd : o.guard = none) (s x : Operand) (t : TypeId)
    (ho : o.op = .call { callee := .builtin .append, args := #[s, x], argTypes := #[t, t] })
    (base : Nat) (e : TypeId) (i : TypeInfo) (z : Value) (size bytes : Nat) (ht : P.underlying t = some (.slice e)) (hi : P.info? e = some i) (hz : i.zero = some z)
    (hsize : i.size = size) (hby : i.bytes = bytes) (hzs : z.cells.size = size) (hsz : 0 < size)
    (v : Value) (n : Nat) (xs : List Value) (hs : a.eval s = v) (hown : w.ownsRow base e size v n xs) (u : Value) (m : Nat) (news : List Value) (hx : a.eval x = u) (hu : Sl w size u m news) (h1 : ∀ u ∈ news, u.oneCell' = true)
    (h63 : n + m ≤ maxLen) (hbytes : (n + m) * bytes ≤ 140737488355328) (hbase : base ≤ w.heap.size)
    (h : ∀ v' w', w'.ownsRow base e size v' (n + m) (xs ++ news) → w.grownBy w' v.ownBlock → wpList P ops Q rest (a.put o.dst v') w') : wpList P ops Q (o :: rest) a w := by
  obtain ⟨v', w', h2, h3, h4⟩ := run_append_sl (P := P) w base t o.type e i z size bytes ht hi hz hsize hby hzs hsz v n xs hown u m news hu h1 h63 hbytes hbase
  exact wpList_append_run w hgd s x t t ho v u hs hx v' w' h2 (h v' w' h3 h4)
/-- append onto a row of the call's own, as one step of a region that draws -/
theorem step_append_own {ops : Array Oper} {o : Oper} {a : Act} {K : Act → World → Prop} {Q : Exit → Act → World → Prop} {E : Prop} (hgd : o.guard = none) (s x : Operand) (t : TypeId)
    (ho : o.op = .call { callee := .builtin .append, args := #[s, x], argTypes := #[t, t] })
    (base : Nat) (e : TypeId) (i : TypeInfo) (z : Value) (size bytes : Nat) (ht : P.underlying t = some (.slice e)) (hi : P.info? e = some i) (hz : i.zero = some z)
    (hsize : i.size = size) (hby : i.bytes = bytes) (hzs : z.cells.size = size) (hsz : 0 < size)
    (v : Value) (n : Nat) (xs : List Value) (hs : a.eval s = v) (hown : w.ownsRow base e size v n xs)
    (ad : Addr) (m c : Nat) (news : List Value) (hx : a.eval x = .slice (some ad) m c) (hl : news.length = m * size) (hnews : ∀ j u, news[j]? = some u → w.cell? (ad.add j) = some u) (h1 : ∀ u ∈ news, u.oneCell' = true)
    (h63 : n + m ≤ maxLen) (hbytes : (n + m) * bytes ≤ 140737488355328) (hbase : base ≤ w.heap.size)
    (h : ∀ v' w', w'.ownsRow base e size v' (n + m) (xs ++ news) → w.grownBy w' v.ownBlock → (v' = .slice none 0 0 ↔ v = .slice none 0 0 ∧ m = 0) → K (a.put o.dst v') w') :
    if Region.wanted o (yielded ops a.tmps) = true then Oper.wp P o a w K Q else E := by
  have hw : Region.wanted o (yielded ops a.tmps) = true := by simp [Region.wanted, hgd]
  rw [if_pos hw]
  exact wp_append_own w s x t ho base e i z size bytes ht hi hz hsize hby hzs hsz v n xs hs hown ad m c news hx hl hnews h1 h63 hbytes hbase h
end
end Go.Proofs.YtjjlhihocllgjaaGreatDoor
namespace Go.Proofs.YtjjlhihocllgjaaGreatDoor.Gn
open Go.ChangeShapes Go.WideShapes Go.ChangeAt Go.RowKit
section
variable {T : Type} {K : Nat} {c : T → List Value}
theorem flat_len (hc : ∀ t, (c t).length = K) : ∀ L : List T, (L.flatMap c).length = L.length * K
  | [] => by simp
  | t :: L => by
    rw [List.flatMap_cons, List.length_append, hc, flat_len hc L, List.length_cons, Nat.succ_mul, Nat.add_comm]
theorem flat_get (hc : ∀ t, (c t).length = K) : ∀ (L : List T) (i r : Nat) (hi : i < L.length), r < K → (L.flatMap c)[i * K + r]? = (c L[i])[r]?
  | t :: L, 0, r, hi, hr => by
    rw [List.flatMap_cons, Nat.zero_mul, Nat.zero_add, List.getElem?_append_left (by rw [hc]; exact hr)]
    rfl
  | t :: L, i + 1, r, hi, hr => by
    have hi' : i < L.length := by simpa using hi
    rw [List.flatMap_cons, List.getElem?_append_right (by rw [hc, Nat.succ_mul]; omega), hc]
    have e : (i + 1) * K + r - K = i * K + r := by rw [Nat.succ_mul]; omega
    rw [e, flat_get hc L i r hi' hr]
    rfl
theorem flat_take (L : List T) (k : Nat) (hk : k < L.length) : (L.take (k + 1)).flatMap c = (L.take k).flatMap c ++ c L[k] := by
  rw [List.take_succ_eq_append_getElem hk, List.flatMap_append, List.flatMap_cons, List.flatMap_nil, List.append_nil]
theorem flat_one (h1 : ∀ t : T, ∀ u ∈ c t, u.oneCell' = true) (L : List T) : ∀ u ∈ L.flatMap c, u.oneCell' = true := by
  intro u hu
  obtain ⟨x, _, hx⟩ := List.mem_flatMap.1 hu
  exact h1 x u hx
end
/-- a row of cells in memory -/
def Row (w : World) (b o : Nat) (xs : List Value) : Prop := ∀ (j : Nat) (u : Value), xs[j]? = some u → w.cell? ⟨b, o + j, none⟩ = some u
theorem Row.below {w w' : World} {b o : Nat} {xs : List Value} (h : Row w b o xs) (hb : b < w.heap.size) (hB : Below w.heap.size w w') : Row w' b o xs := fun j u hu => by
  rw [hB.cell (p := ⟨b, _, none⟩) hb]
  exact h j u hu
theorem Row.elem {w : World} {b o : Nat} {T : Type} {K : Nat} {c : T → List Value} {L : List T} (h : Row w b o (L.flatMap c)) (hc : ∀ t, (c t).length = K) (i : Nat) (hi : i < L.length) (r : Nat) (hr : r < K) (u : Value) (hu : (c L[i])[r]? = some u) : w.cell? ⟨b, o + i * K + r, none⟩ = some u := by
  have := h (i * K + r) u (by rw [flat_get hc L i r hi hr]; exact hu)
  rw [Nat.add_assoc]
  exact this
theorem Row.elem0 {w : World} {b o : Nat} {T : Type} {K : Nat} {c : T → List Value} {L : List T} (h : Row w b o (L.flatMap c)) (hc : ∀ t, (c t).length = K) (i : Nat) (hi : i < L.length) (hr : 0 < K) (u : Value) (hu : (c L[i])[0]? = some u) : w.cell? ⟨b, o + i * K, none⟩ = some u := by
  have := h.elem hc i hi 0 hr u hu
  simpa using this
theorem sl_parts {w : World} {K n : Nat} {v : Value} {xs : List Value} (h : Sl w K v n xs) : ∃ A cap, v = .slice A n cap ∧ n ≤ cap ∧ cap ≤ maxLen ∧ (0 < n → ∃ b o, A = some ⟨b, o, none⟩ ∧ b < w.heap.size ∧ Row w b o xs) := by
  obtain ⟨_, A, cap, h1, h2, h3, h4⟩ := h
  exact ⟨A, cap, h1, h2, h3, h4⟩
theorem own_form {w : World} {base : Nat} {e : TypeId} {size n : Nat} {v : Value} {xs : List Value} (h : w.ownsRow base e size v n xs) : ∃ A c, v = .slice A n c := by
  rcases h.2 with ⟨rfl, rfl⟩ | ⟨g, cap, cur, rfl, _⟩
  · exact ⟨none, 0, rfl⟩
  · exact ⟨_, cap, rfl⟩
theorem cells_new (w : World) (cs : List Value) (t : TypeId) : ∀ j u, cs[j]? = some u → (w.alloc (.cells cs.toArray t)).cell? ((⟨w.heap.size, 0, none⟩ : Addr).add j) = some u := by
  intro j u hu
  rw [OpenAdd.add_at, (Blk.new w t cs.toArray).cell]
  simpa using hu
end Go.Proofs.YtjjlhihocllgjaaGreatDoor.Gn
namespace Go.Proofs.YtjjlhihocllgjaaGreatDoor.Ros
open Go.ChangeShapes Go.WideShapes Go.ChangeAt Go.RowKit Gn Cat Lex
set_option linter.unusedVariables false
set_option linter.unusedSimpArgs false
/-- a bidder -/
structure Bid where
  name : ByteArray
  cls : Int
  budget : Int
  points : Int
def Bid.none : Bid := ⟨⟨#[]⟩, 0, 0, 0⟩
abbrev Bid.cells (p : Bid) : List Value := [.string p.name, .int .i64 p.cls, .int .i64 p.budget, .int .i64 p.points]
theorem bid_len (p : Bid) : p.cells.length = 4 := rfl
/-- a list of bidders in memory -/
abbrev BidS (w : World) (v : Value) (l : List Bid) : Prop := Sl w 4 v l.length (l.flatMap Bid.cells)
/-- a row of bidders in memory -/
abbrev BidRow (w : World) (b o : Nat) (l : List Bid) : Prop := Row w b o (l.flatMap Bid.cells)
theorem BidRow.at_ {w : World} {b o : Nat} {l : List Bid} (h : BidRow w b o l) (k : Nat) (hk : k < l.length) :
    w.cell? ⟨b, o + k * 4, none⟩ = some (.string l[k].name) ∧ w.cell? ⟨b, o + k * 4 + 1, none⟩ = some (.int .i64 l[k].cls) ∧ w.cell? ⟨b, o + k * 4 + 2, none⟩ = some (.int .i64 l[k].budget) ∧ w.cell? ⟨b, o + k * 4 + 3, none⟩ = some (.int .i64 l[k].points) :=
  ⟨h.elem0 bid_len k hk (by omega) _ rfl, h.elem bid_len k hk 1 (by omega) _ rfl, h.elem bid_len k hk 2 (by omega) _ rfl, h.elem bid_len k hk 3 (by omega) _ rfl⟩
theorem BidRow.take {w : World} {b o : Nat} {l : List Bid} (h : BidRow w b o l) (k : Nat) : BidRow w b o (l.take k) := by
  intro j u hu
  refine h j u ?_
  have e : l.flatMap Bid.cells = (l.take k).flatMap Bid.cells ++ (l.drop k).flatMap Bid.cells := by
    rw [← List.flatMap_append, List.take_append_drop]
  rw [e, List.getElem?_append_left]
  · exact hu
  · exact (List.getElem?_eq_some_iff.1 hu).1
def findFromB (name : ByteArray) : List Bid → Nat → Option Nat
  | [], _ => none
  | p :: r, i => if eqB p.name name then some i else findFromB name r (i + 1)
def findB (l : List Bid) (name : ByteArray) : Option Nat := findFromB name l 0
theorem findFromB_lt {name : ByteArray} : ∀ {l : List Bid} {i k : Nat}, findFromB name l i = some k → i ≤ k ∧ k < i + l.length
  | [], i, k, h => by simp [findFromB] at h
  | p :: r, i, k, h => by
    rw [findFromB] at h
    split at h
    · cases h; simp
    · have := findFromB_lt h
      rw [List.length_cons]
      omega
theorem findFromB_drop {name : ByteArray} {l : List Bid} {k : Nat} (h : k < l.length) (j : Nat) : findFromB name (l.drop k) j = if eqB l[k].name name then some j else findFromB name (l.drop (k + 1)) (j + 1) := by
  rw [List.drop_eq_getElem_cons h]
  rfl
theorem findFromB_end {name : ByteArray} {l : List Bid} (j : Nat) : findFromB name (l.drop l.length) j = none := by
  rw [List.drop_length]
  rfl
def bidOk (p : Bid) : Bool := inR p.cls 0 4 && (inR p.budget 0 1000000 && inR p.points 0 24000)
theorem bidOk_iff {p : Bid} : bidOk p = true ↔ (0 ≤ p.cls ∧ p.cls ≤ 4) ∧ (0 ≤ p.budget ∧ p.budget ≤ 1000000) ∧ (0 ≤ p.points ∧ p.points ≤ 24000) := by simp [bidOk, inR]
def rosGo (l : List Bid) : List Bid → Nat → Int
  | [], _ => 0
  | p :: r, i => if nameOk p.name then (if (findB (l.take i) p.name).isSome then 7 else if bidOk p then rosGo l r (i + 1) else 4) else 5
theorem rosGo_drop {l : List Bid} {k : Nat} (hk : k < l.length) : rosGo l (l.drop k) k = if nameOk l[k].name then (if (findB (l.take k) l[k].name).isSome then 7 else if bidOk l[k] then rosGo l (l.drop (k + 1)) (k + 1) else 4) else 5 := by
  rw [List.drop_eq_getElem_cons hk, rosGo]
theorem rosGo_all {l : List Bid} : ∀ (r : List Bid) (i : Nat), rosGo l r i = 0 → ∀ p ∈ r, bidOk p = true ∧ nameOk p.name = true
  | [], _, _ => by simp
  | p :: r, i, h => by
    rw [rosGo] at h
    split at h
    · rename_i hn
      split at h
      · cases h
      · split at h
        · rename_i hb
          intro q hq
          rcases List.mem_cons.1 hq with rfl | hq
          · exact ⟨hb, hn⟩
          · exact rosGo_all r (i + 1) h q hq
        · cases h
    · cases h
/-- what Check computes -/
def rosE (l : List Bid) : Int := if l.length = 0 then 1 else if 8 < l.length then 3 else rosGo l l 0
theorem rosE_mid {l : List Bid} (h0 : 0 < l.length) (h8 : l.length ≤ 8) : rosE l = rosGo l l 0 := by
  unfold rosE
  rw [if_neg (by omega), if_neg (by omega)]
theorem rosE_zero {l : List Bid} (h : rosE l = 0) : 0 < l.length ∧ l.length ≤ 8 ∧ rosGo l l 0 = 0 := by
  unfold rosE at h
  split at h
  · cases h
  · split at h
    · cases h
    · exact ⟨by omega, by omega, h⟩
/-- the first with a name: the place itself if and only if none before has it -/
theorem find_first {name : ByteArray} : ∀ (l : List Bid) (k i : Nat) (hk : k < l.length), l[k].name = name → findFromB name l i = some ((findFromB name (l.take k) i).getD (i + k))
  | p :: r, 0, i, hk, h => by
    rw [show findFromB name (p :: r) i = if eqB p.name name then some i else findFromB name r (i + 1) from rfl, if_pos (eqB_iff.2 (show p.name = name from h))]
    simp [findFromB]
  | p :: r, k + 1, i, hk, h => by
    rw [List.take_succ_cons, show findFromB name (p :: r) i = if eqB p.name name then some i else findFromB name r (i + 1) from rfl, show findFromB name (p :: r.take k) i = if eqB p.name name then some i else findFromB name (r.take k) (i + 1) from rfl]
    split
    · rfl
    · have := find_first r k (i + 1) (by simpa using hk) (by simpa using h)
      rw [this]
      congr 2
      omega
theorem find_at {l : List Bid} {k : Nat} (hk : k < l.length) : findB l l[k].name = some ((findB (l.take k) l[k].name).getD k) := by
  have := find_first l k 0 hk rfl
  rw [Nat.zero_add] at this
  exact this
theorem find_take_lt {l : List Bid} {k j : Nat} {name : ByteArray} (h : findB (l.take k) name = some j) : j < k := by
  have := (findFromB_lt h).2
  simp at this
  omega
end Go.Proofs.YtjjlhihocllgjaaGreatDoor.Ros
namespace Go.Proofs.YtjjlhihocllgjaaGreatDoor.Ros
open Go.ChangeShapes Go.WideShapes Go.ChangeAt Go.RowKit Gn Cat Lex
set_option linter.unusedVariables false
set_option linter.unusedSimpArgs false
def findI (l : List Bid) (name : ByteArray) : Int := (((findB l name).getD 0 : Nat) : Int)
def findOk (l : List Bid) (name : ByteArray) : Bool := (findB l name).isSome
abbrev FindPost (l : List Bid) (name : ByteArray) (w : World) : Ending → World → Prop := fun e w' => e = .returned (.tuple #[.int .i64 (findI l name), .bool (findOk l name)]) ∧ Below w.heap.size w w'

theorem find_empty (A : Option Addr) (c : Nat) (name : ByteArray) (w : World) : Calls Tryz.prog 101 #[.slice A 0 c, .string name] w (FindPost [] name w) := by
  go_enter Tryz.func101, Tryz.ntmps101
  go_wp2_with fail
  refine wp_loop_rounds 1 ?_
  rw [rounds_succ]
  go_wp2_with fail
  go_ret2
  exact ⟨rfl, Below.refl _ _⟩
theorem find_some (l : List Bid) (b1 o1 c1 : Nat) (name : ByteArray) (w : World) (hl : l.length ≤ 5000) (hb1 : b1 < w.heap.size) (h1 : BidRow w b1 o1 l) :
    Calls Tryz.prog 101 #[.slice (some ⟨b1, o1, none⟩) l.length c1, .string name] w (FindPost l name w) := by
  have HR := Lib.hid h1
  clear h1
  go_enter Tryz.func101, Tryz.ntmps101
  go_wp2_with fail
  go_loopw [10] (fun i wr => ∃ k : Nat, k ≤ l.length ∧ i = .int .i64 (k : Int) ∧ Hid (findFromB name (l.drop k) k = findB l name) ∧ Hid (Below w.heap.size w wr)) (fun i _ => l.length - (intOf i).toNat)
  case atStart => exact ⟨0, by omega, rfl, rfl, Below.refl _ _⟩
  case round =>
    obtain ⟨k, hk, rfl, HX, HB0⟩ := hrel
    by_cases hlt : k < l.length
    · have hd : decide ((k : Int) < (l.length : Int)) = true := by simp; omega
      have hi0 : (0 : Int) ≤ (k : Int) := by omega
      have et := HR.out.at_ k hlt
      simp only [← HB0.out.cell (p := ⟨b1, _, none⟩) hb1] at et
      have hbr : b1 < wr.heap.size := by have := HB0.out.size; omega
      have hst := findFromB_drop (name := name) hlt k
      cases he : eqB l[k].name name with
      | true =>
        rw [he, if_pos rfl] at hst
        have HF : Hid (findB l name = some k) := HX.out.symm.trans hst
        have he2 : (l[k].name.toList == name.toList) = true := he
        clear hst he
        generalize l[k] = p at *
        go_wp2_with fail
        go_ret2
        exact ⟨by unfold findI findOk; rw [HF.out]; rfl, HB0.out.alloc HB0.out.size _⟩
      | false =>
        rw [he, if_neg (by simp)] at hst
        have HF : Hid (findFromB name (l.drop (k + 1)) (k + 1) = findB l name) := hst.symm.trans HX.out
        have he2 : (l[k].name.toList == name.toList) = false := he
        clear hst he
        generalize l[k] = p at *
        go_wp2_with fail
        go_roundw
        case rel => exact ⟨k + 1, by omega, by go_num, HF, HB0.out.alloc HB0.out.size _⟩
        case measure => simp [intOf]; omega
    · obtain rfl : k = l.length := by omega
      have hd : decide ((l.length : Int) < (l.length : Int)) = false := by simp
      have HF : Hid (findB l name = none) := HX.out.symm.trans (findFromB_end _)
      go_wp2_with fail
      go_ret2
      exact ⟨by unfold findI findOk; rw [HF.out]; rfl, HB0.out⟩
theorem find_take (l : List Bid) (b1 o1 c1 k : Nat) (name : ByteArray) (w : World) (hl : l.length ≤ 5000) (hk : k ≤ l.length) (hb1 : b1 < w.heap.size) (h1 : BidRow w b1 o1 l) : Calls Tryz.prog 101 #[.slice (some ⟨b1, o1, none⟩) k c1, .string name] w (FindPost (l.take k) name w) := by
  have e : (l.take k).length = k := by simp; omega
  have h := find_some (l.take k) b1 o1 c1 name w (by omega) hb1 (h1.take k)
  rw [e] at h
  exact h
theorem find_any (l : List Bid) (v : Value) (name : ByteArray) (w : World) (hl : l.length ≤ 5000) (h : BidS w v l) : Calls Tryz.prog 101 #[v, .string name] w (FindPost l name w) := by
  obtain ⟨A, c, rfl, _, _, ha⟩ := sl_parts h
  cases l with
  | nil => exact find_empty A c name w
  | cons p l =>
    obtain ⟨b, o, rfl, hb, r⟩ := ha (by simp)
    exact find_some _ b o c name w hl hb r
theorem rfind_empty (A : Option Addr) (c : Nat) (name : ByteArray) (w : World) : Calls Tryz.prog 103 #[.slice A 0 c, .string name] w (FindPost [] name w) := by
  go_enter Tryz.func103, Tryz.ntmps103
  go_wp2_with fail
  refine wp_loop_rounds 1 ?_
  rw [rounds_succ]
  go_wp2_with fail
  go_ret2
  exact ⟨rfl, Below.refl _ _⟩
theorem rfind_some (l : List Bid) (b1 o1 c1 : Nat) (name : ByteArray) (w : World) (hl : l.length ≤ 5000) (hb1 : b1 < w.heap.size) (h1 : BidRow w b1 o1 l) :
    Calls Tryz.prog 103 #[.slice (some ⟨b1, o1, none⟩) l.length c1, .string name] w (FindPost l name w) := by
  have HR := Lib.hid h1
  clear h1
  go_enter Tryz.func103, Tryz.ntmps103
  go_wp2_with fail
  go_loopw [6] (fun i wr => ∃ k : Nat, k ≤ l.length ∧ i = .int .i64 (k : Int) ∧ Hid (findFromB name (l.drop k) k = findB l name) ∧ Hid (Below w.heap.size w wr)) (fun i _ => l.length - (intOf i).toNat)
  case atStart => exact ⟨0, by omega, rfl, rfl, Below.refl _ _⟩
  case round =>
    obtain ⟨k, hk, rfl, HX, HB0⟩ := hrel
    by_cases hlt : k < l.length
    · have hd : decide ((k : Int) < (l.length : Int)) = true := by simp; omega
      have hi0 : (0 : Int) ≤ (k : Int) := by omega
      have et := HR.out.at_ k hlt
      simp only [← HB0.out.cell (p := ⟨b1, _, none⟩) hb1] at et
      have hbr : b1 < wr.heap.size := by have := HB0.out.size; omega
      have hst := findFromB_drop (name := name) hlt k
      cases he : eqB l[k].name name with
      | true =>
        rw [he, if_pos rfl] at hst
        have HF : Hid (findB l name = some k) := HX.out.symm.trans hst
        have he2 : (l[k].name.toList == name.toList) = true := he
        clear hst he
        generalize l[k] = p at *
        go_wp2_with fail
        go_ret2
        exact ⟨by unfold findI findOk; rw [HF.out]; rfl, HB0.out⟩
      | false =>
        rw [he, if_neg (by simp)] at hst
        have HF : Hid (findFromB name (l.drop (k + 1)) (k + 1) = findB l name) := hst.symm.trans HX.out
        have he2 : (l[k].name.toList == name.toList) = false := he
        clear hst he
        generalize l[k] = p at *
        go_wp2_with fail
        go_roundw
        case rel => exact ⟨k + 1, by omega, by go_num, HF, HB0.out⟩
        case measure => simp [intOf]; omega
    · obtain rfl : k = l.length := by omega
      have hd : decide ((l.length : Int) < (l.length : Int)) = false := by simp
      have HF : Hid (findB l name = none) := HX.out.symm.trans (findFromB_end _)
      go_wp2_with fail
      go_ret2
      exact ⟨by unfold findI findOk; rw [HF.out]; rfl, HB0.out⟩
theorem rfind_take (l : List Bid) (b1 o1 c1 k : Nat) (name : ByteArray) (w : World) (hl : l.length ≤ 5000) (hk : k ≤ l.length) (hb1 : b1 < w.heap.size) (h1 : BidRow w b1 o1 l) : Calls Tryz.prog 103 #[.slice (some ⟨b1, o1, none⟩) k c1, .string name] w (FindPost (l.take k) name w) := by
  have e : (l.take k).length = k := by simp; omega
  have h := rfind_some (l.take k) b1 o1 c1 name w (by omega) hb1 (h1.take k)
  rw [e] at h
  exact h
theorem rfind_any (l : List Bid) (v : Value) (name : ByteArray) (w : World) (hl : l.length ≤ 5000) (h : BidS w v l) : Calls Tryz.prog 103 #[v, .string name] w (FindPost l name w) := by
  obtain ⟨A, c, rfl, _, _, ha⟩ := sl_parts h
  cases l with
  | nil => exact rfind_empty A c name w
  | cons p l =>
    obtain ⟨b, o, rfl, hb, r⟩ := ha (by simp)
    exact rfind_some _ b o c name w hl hb r
end Go.Proofs.YtjjlhihocllgjaaGreatDoor.Ros
namespace Go.Proofs.YtjjlhihocllgjaaGreatDoor
open Go.ChangeShapes Go.WideShapes Go.ChangeAt Go.RowKit
set_option linter.unusedVariables false
set_option linter.unusedSimpArgs false
namespace Cat
open Lex
theorem units_any (l : List Prod) (v : Value) (gr : Int) (b : Nat → Int) (w : World) (hl : l.length ≤ 5000) (h : PS w v l) (hn : ∀ p ∈ l, p.name.size ≤ maxLen) :
    Calls Tryz.prog 116 #[v, .int .i64 gr, .agg (arr b)] w fun e w' => e = .returned (.int .i64 (sumE (gw gr) b l)) ∧ Below w.heap.size w w' := by
  have CS : Hid (∀ w' a, Below w.heap.size w w' → w'.cell? ⟨a, 0, none⟩ = some (.int .i64 gr) → Calls Tryz.prog 149 #[.agg #[v, .int .i64 (b 0), .int .i64 (b 1), .int .i64 (b 2), .int .i64 (b 3), .int .i64 (b 4), .int .i64 (b 5)], .func (.func 150) #[] #[.pointer (some ⟨a, 0, none⟩)]] w' fun e w2 => e = .returned (.int .i64 (sumE (gw gr) b l)) ∧ Below w'.heap.size w' w2) := by
    intro w' a hb hcell
    have h' := Sl.keep h hb
    obtain ⟨A, c, rfl, k1, k2, ha⟩ := ps_cases h'
    unfold sumE
    by_cases hz : checkE l = 0
    · cases hv : validB b with
      | false => rw [if_neg (by simp)]; exact sum_bad2 l A c b _ w' hl h' hn hz hv
      | true =>
        rw [if_pos ⟨hz, rfl⟩]
        obtain ⟨b1, o1, rfl, _, r⟩ := ha (checkE_zero hz).1
        exact sum_units a gr l b1 o1 c b w' k1 k2 r hn hz hv hcell
    · rw [if_neg (fun e => hz e.1)]
      exact sum_bad l A c b _ w' hl h' hn hz
  obtain ⟨A, c, rfl, _, _, _⟩ := ps_cases h
  clear h hn
  generalize sumE (gw gr) b l = r at *
  have HC := Lib.hid (show ∀ T T2, (((w.alloc (.cells #[.int .i64 gr] T)).alloc (.cells (arr b) T2))).cell? ⟨w.heap.size, 0, none⟩ = some (.int .i64 gr) by intro T T2; simp [go_sem])
  unfold arr at HC
  unfold arr
  go_enter Tryz.func116, Tryz.ntmps116
  go_wp2_with fail
  refine (CS.out _ _ ((below_new _ _).alloc (by go_size) _) (HC.out _ _)).mono ?_
  rintro e w1 ⟨rfl, d1⟩
  have B1 := Lib.hid (chain2 (Below.refl _ _) d1)
  clear d1
  go_wp2_with fail
  go_ret
  exact ⟨rfl, B1.out⟩
end Cat
end Go.Proofs.YtjjlhihocllgjaaGreatDoor
namespace Go.Proofs.YtjjlhihocllgjaaGreatDoor
open Go.ChangeShapes Go.WideShapes Go.ChangeAt Go.RowKit
set_option linter.unusedVariables false
set_option linter.unusedSimpArgs false
namespace Cat
open Lex
def lin (s x : Int) (j : Nat) : Int := s + j * x
theorem lin_zero (s x : Int) : lin s x 0 = s := by simp [lin]
theorem lin_succ (s x : Int) (j : Nat) : lin s x (j + 1) = lin s x j + x := by
  unfold lin
  rw [Int.natCast_add, Int.add_mul]
  omega
theorem lin_le {s x : Int} {j : Nat} (hj : j ≤ 4) (h0 : 0 ≤ s) (h1 : s ≤ 24000000) (h2 : 0 ≤ x) (h3 : x ≤ 1000000) : 0 ≤ lin s x j ∧ lin s x j ≤ 100000000 := by
  unfold lin
  have h4 : 0 ≤ (j : Int) * x := Int.mul_nonneg (by omega) h2
  have h5 : (j : Int) * x ≤ 4 * 1000000 := Int.mul_le_mul (by omega) h3 h2 (by omega)
  constructor <;> omega
def sums3 (g : Int) (b : Nat → Int) (l : List Prod) : Value := .tuple #[.int .i64 (sumE Prod.points b l), .int .i64 (sumE Prod.reserve b l), .int .i64 (sumE (gw g) b l)]
theorem rsums_bad (l : List Prod) (A : Option Addr) (c : Nat) (g : Int) (b : Nat → Int) (w : World) (hl : l.length ≤ 5000) (h : PS w (.slice A l.length c) l) (hn : ∀ p ∈ l, p.name.size ≤ maxLen) (hz : checkE l ≠ 0) :
    Calls Tryz.prog 61 #[.slice A l.length c, .int .i64 g, .agg (arr b)] w fun e w' => e = .returned (.tuple #[.int .i64 0, .int .i64 0, .int .i64 0]) ∧ Below w.heap.size w w' := by
  have CC := Lib.hid (fun w' (k : Below w.heap.size w w') => rcheck_any l (.slice A l.length c) w' hl (Sl.keep h k) hn)
  have hz2 : (checkE l != 0) = true := by simpa using hz
  clear h hn hz
  unfold arr
  go_enter Tryz.func61, Tryz.ntmps61
  go_wp2_with fail
  refine (CC.out _ (below_new _ _)).mono ?_
  rintro e w1 ⟨rfl, b1⟩
  have B1 := Lib.hid (chain1 (Below.refl _ _) b1)
  clear b1
  go_wp2_with fail
  go_ret3
  exact ⟨rfl, B1.out⟩
theorem rsums_bad2 (l : List Prod) (A : Option Addr) (c : Nat) (g : Int) (b : Nat → Int) (w : World) (hl : l.length ≤ 5000) (h : PS w (.slice A l.length c) l) (hn : ∀ p ∈ l, p.name.size ≤ maxLen) (hz : checkE l = 0) (hv : validB b = false) :
    Calls Tryz.prog 61 #[.slice A l.length c, .int .i64 g, .agg (arr b)] w fun e w' => e = .returned (.tuple #[.int .i64 0, .int .i64 0, .int .i64 0]) ∧ Below w.heap.size w w' := by
  have CC := Lib.hid (fun w' (k : Below w.heap.size w w') => rcheck_any l (.slice A l.length c) w' hl (Sl.keep h k) hn)
  have CB := Lib.hid (fun w => valid_no b w hv)
  have hz2 : (checkE l != 0) = false := by simpa using hz
  have HK := Lib.hid (fun w1 (k : Below (w.alloc (.cells (arr b) 25)).heap.size (w.alloc (.cells (arr b) 25)) w1) => (box_new w b 25).below k (by go_size))
  clear h hn hz hv
  unfold arr at CB
  unfold arr
  go_enter Tryz.func61, Tryz.ntmps61
  go_wp2_with fail
  refine (CC.out _ (below_new _ _)).mono ?_
  rintro e w1 ⟨rfl, b1⟩
  have k1 := (HK.out _ b1)
  have c1 := k1.cells
  have g1 := k1.lt
  have B1 := Lib.hid (chain1 (Below.refl _ _) b1)
  clear b1 k1
  go_wp2_with fail
  refine (CB.out _).mono ?_
  rintro e w2 ⟨rfl, b2⟩
  have B2 := Lib.hid (chain0 B1.out b2)
  clear b2
  go_wp2_with fail
  go_ret3
  exact ⟨rfl, B2.out⟩
set_option maxHeartbeats 1000000 in
theorem rsums_some (l : List Prod) (b1 o1 c : Nat) (g : Int) (b : Nat → Int) (w : World) (hc : l.length ≤ c) (hm : c ≤ maxLen) (h1 : ProdRow w b1 o1 l) (hn : ∀ p ∈ l, p.name.size ≤ maxLen) (hz : checkE l = 0) (hv : validB b = true) :
    Calls Tryz.prog 61 #[.slice (some ⟨b1, o1, none⟩) l.length c, .int .i64 g, .agg (arr b)] w fun e w' => e = .returned (.tuple #[.int .i64 (sw Prod.points b l l.length), .int .i64 (sw Prod.reserve b l l.length), .int .i64 (sw (gw g) b l l.length)]) ∧ Below w.heap.size w w' := by
  obtain ⟨h0, h6, hg⟩ := checkE_zero hz
  have hb1 : b1 < w.heap.size := block_lt_of_cell (h1.at_ 0 h0).1
  have HR := Lib.hid fun w' => h1.below (w' := w') hb1
  have CC := Lib.hid (fun w' (k : Below w.heap.size w w') => rcheck_some l b1 o1 c w' h6 h0 hc hm (HR.out w' k) hn)
  have CB := Lib.hid (fun w => valid_yes b w hv)
  have hz2 : (checkE l != 0) = false := by simpa using hz
  have HK := Lib.hid (fun w1 (k : Below (w.alloc (.cells (arr b) 25)).heap.size (w.alloc (.cells (arr b) 25)) w1) => (box_new w b 25).below k (by go_size))
  have HV := Lib.hid (validB_iff.1 hv)
  have HP := Lib.hid (fun p hp => rangeOk_iff.1 (checkGo_range l 0 hg p hp).1)
  have HS1 := Lib.hid (sw_le (f := Prod.points) (b := b) (l := l) (validB_iff.1 hv) (fun p hp => by have := rangeOk_iff.1 (checkGo_range l 0 hg p hp).1; omega) h6)
  have HS2 := Lib.hid (sw_le (f := Prod.reserve) (b := b) (l := l) (validB_iff.1 hv) (fun p hp => by have := rangeOk_iff.1 (checkGo_range l 0 hg p hp).1; omega) h6)
  have HS3 := Lib.hid (sw_le (f := gw g) (b := b) (l := l) (validB_iff.1 hv) (fun p hp => by unfold gw; split <;> omega) h6)
  have HU : Hid (∀ f k, sw f b l (k + 1) = sw f b l k + b k * f (l.getD k Prod.none)) := fun _ _ => rfl
  clear h1 hn hz hv hg
  unfold arr at CB
  unfold maxLen at hm
  unfold arr
  go_enter Tryz.func61, Tryz.ntmps61
  go_wp2_with fail
  refine (CC.out _ (below_new _ _)).mono ?_
  rintro e w1 ⟨rfl, d1⟩
  have K1 := Lib.hid (HK.out _ d1)
  have c1 := K1.out.cells
  have g1 := K1.out.lt
  have B1 := Lib.hid (chain1 (Below.refl _ _) d1)
  clear d1
  go_wp2_with fail
  refine (CB.out _).mono ?_
  rintro e w2 ⟨rfl, d2⟩
  have B2 := Lib.hid (chain0 B1.out d2)
  have K2 := Lib.hid (K1.out.below d2 g1)
  clear d2 c1 g1
  go_wp2_with fail
  go_loopw [12, 9, 10, 11] (fun i p r u wr => ∃ k : Nat, k ≤ l.length ∧ i = .int .i64 (k : Int) ∧ p = .int .i64 (sw Prod.points b l k) ∧ r = .int .i64 (sw Prod.reserve b l k) ∧ u = .int .i64 (sw (gw g) b l k) ∧ Hid (Box wr w.heap.size b) ∧ Hid (Below w.heap.size w wr)) (fun i _ _ _ _ => l.length - (intOf i).toNat)
  case atStart => exact ⟨0, by omega, rfl, rfl, rfl, rfl, K2.out, B2.out⟩
  case round =>
    obtain ⟨k, hk, rfl, rfl, rfl, rfl, K, B⟩ := hrel
    by_cases hlt : k < l.length
    · have hd : decide ((k : Int) < (l.length : Int)) = true := by simp; omega
      have hi0 : (0 : Int) ≤ (k : Int) := by omega
      have hk6 : k < 6 := by omega
      have h6k : (k : Int) < 6 := by omega
      have hs1 := HS1.out k (by omega)
      have hs2 := HS2.out k (by omega)
      have hs3 := HS3.out k (by omega)
      have E1 := Lib.hid (HU.out Prod.points k)
      have E2 := Lib.hid (HU.out Prod.reserve k)
      have E3 := Lib.hid (HU.out (gw g) k)
      rw [getD_prod l k hlt] at E1 E2 E3
      have hp := HP.out l[k] (List.getElem_mem hlt)
      have hbb := HV.out k hk6
      have HRK := Lib.hid (fun w' hb => (HR.out w' hb).at_ k hlt)
      generalize l[k] = p at *
      generalize sw Prod.points b l k = s1 at *
      generalize sw Prod.reserve b l k = s2 at *
      generalize sw (gw g) b l k = s3 at *
      have HB1 := Lib.hid (show ∀ j : Nat, j ≤ 4 → 0 ≤ lin s1 p.points j ∧ lin s1 p.points j ≤ 100000000 from fun j hj => lin_le hj (by omega) (by omega) (by omega) (by omega))
      have HB2 := Lib.hid (show ∀ j : Nat, j ≤ 4 → 0 ≤ lin s2 p.reserve j ∧ lin s2 p.reserve j ≤ 100000000 from fun j hj => lin_le hj (by omega) (by omega) (by omega) (by omega))
      have HB3 := Lib.hid (show ∀ j : Nat, j ≤ 4 → 0 ≤ lin s3 (gw g p) j ∧ lin s3 (gw g p) j ≤ 100000000 from fun j hj => lin_le hj (by omega) (by omega) (by unfold gw; split <;> omega) (by unfold gw; split <;> omega))
      have hbk := K.out.cell k hk6
      have gz := K.out.lt
      go_wp2_with fail
      go_loopw [13, 9, 10, 11] (fun i p' r u wr => ∃ j : Nat, (j : Int) ≤ b k ∧ i = .int .i64 (j : Int) ∧ p' = .int .i64 (lin s1 p.points j) ∧ r = .int .i64 (lin s2 p.reserve j) ∧ u = .int .i64 (lin s3 (gw g p) j) ∧ Hid (Box wr w.heap.size b) ∧ Hid (Below w.heap.size w wr)) (fun i _ _ _ _ => (b k).toNat - (intOf i).toNat)
      case atStart => exact ⟨0, by omega, rfl, by rw [lin_zero], by rw [lin_zero], by rw [lin_zero], K.out, B.out⟩
      case round =>
        obtain ⟨j, hj, rfl, rfl, rfl, rfl, K3, B3⟩ := hrel
        clear hbk gz
        have hbk := K3.out.cell k hk6
        have gz := K3.out.lt
        by_cases hjl : (j : Int) < b k
        · have hdj : decide ((j : Int) < b k) = true := decide_eq_true hjl
          have hj0 : (0 : Int) ≤ (j : Int) := by omega
          have et := HRK.out _ B3.out
          have hbr : b1 < wr.heap.size := by have := B3.out.size; omega
          have x1 := HB1.out j (by omega)
          have x2 := HB2.out j (by omega)
          have x3 := HB3.out j (by omega)
          have F1 := Lib.hid (lin_succ s1 p.points j)
          have F2 := Lib.hid (lin_succ s2 p.reserve j)
          have F3 := Lib.hid (lin_succ s3 (gw g p) j)
          generalize lin s1 p.points j = a1 at *
          generalize lin s2 p.reserve j = a2 at *
          generalize lin s3 (gw g p) j = a3 at *
          by_cases e : p.group = g
          · have hq : (p.group == g) = true := by simpa using e
            have HG := Lib.hid (show gw g p = 1 by unfold gw; rw [if_pos e])
            clear e
            go_wp2_with fail
            go_roundw
            case rel => exact ⟨j + 1, by omega, by go_num, by rw [F1.out], by rw [F2.out], by rw [F3.out, HG.out], K3.out, B3.out⟩
            case measure => simp [intOf]; omega
          · have hq : (p.group == g) = false := by simpa using e
            have HG := Lib.hid (show gw g p = 0 by unfold gw; rw [if_neg e])
            clear e
            go_wp2_with fail
            go_roundw
            case rel => exact ⟨j + 1, by omega, by go_num, by rw [F1.out], by rw [F2.out], by rw [F3.out, HG.out, Int.add_zero], K3.out, B3.out⟩
            case measure => simp [intOf]; omega
        · have hjb : (j : Int) = b k := by omega
          have hdj : decide ((j : Int) < b k) = false := decide_eq_false hjl
          have F1 := Lib.hid (show lin s1 p.points j = sw Prod.points b l (k + 1) by rw [E1.out]; unfold lin; rw [hjb])
          have F2 := Lib.hid (show lin s2 p.reserve j = sw Prod.reserve b l (k + 1) by rw [E2.out]; unfold lin; rw [hjb])
          have F3 := Lib.hid (show lin s3 (gw g p) j = sw (gw g) b l (k + 1) by rw [E3.out]; unfold lin; rw [hjb])
          clear hjb
          go_wp2_with fail
          go_roundw
          case rel => exact ⟨k + 1, by omega, by go_num, by rw [F1.out], by rw [F2.out], by rw [F3.out], K3.out, B3.out⟩
          case measure => simp [intOf]; omega
    · obtain rfl : k = l.length := by omega
      have hd : decide ((l.length : Int) < (l.length : Int)) = false := by simp
      go_wp2_with fail
      go_ret3
      exact ⟨rfl, B.out⟩
theorem rsums_any (l : List Prod) (v : Value) (g : Int) (b : Nat → Int) (w : World) (hl : l.length ≤ 5000) (h : PS w v l) (hn : ∀ p ∈ l, p.name.size ≤ maxLen) :
    Calls Tryz.prog 61 #[v, .int .i64 g, .agg (arr b)] w fun e w' => e = .returned (sums3 g b l) ∧ Below w.heap.size w w' := by
  obtain ⟨A, c, rfl, k1, k2, ha⟩ := ps_cases h
  unfold sums3 sumE
  by_cases hz : checkE l = 0
  · cases hv : validB b with
    | false => rw [if_neg (by simp), if_neg (by simp), if_neg (by simp)]; exact rsums_bad2 l A c g b w hl h hn hz hv
    | true =>
      rw [if_pos ⟨hz, rfl⟩, if_pos ⟨hz, rfl⟩, if_pos ⟨hz, rfl⟩]
      obtain ⟨b1, o1, rfl, _, r⟩ := ha (checkE_zero hz).1
      exact rsums_some l b1 o1 c g b w k1 k2 r hn hz hv
  · rw [if_neg (fun e => hz e.1), if_neg (fun e => hz e.1), if_neg (fun e => hz e.1)]
    exact rsums_bad l A c g b w hl h hn hz
end Cat
end Go.Proofs.YtjjlhihocllgjaaGreatDoor
namespace Go.Proofs.YtjjlhihocllgjaaGreatDoor
open Go.ChangeShapes Go.WideShapes Go.ChangeAt Go.RowKit
set_option linter.unusedVariables false
set_option linter.unusedSimpArgs false
namespace Cat
open Lex
/-- no units from place n on -/
def tailB (p : Nat → Int) (n : Nat) : Bool := (List.range 6).all fun i => decide (i < n) || p i == 0
theorem tailB_true {p : Nat → Int} {n : Nat} (h : ∀ j, j < 6 → j < n ∨ p j = 0) : tailB p n = true := by
  unfold tailB
  rw [List.all_eq_true]
  intro i hi
  simpa using h i (List.mem_range.1 hi)
theorem tailB_iff {p : Nat → Int} {n : Nat} : tailB p n = true ↔ ∀ j, j < 6 → j < n ∨ p j = 0 := by
  refine ⟨fun h j hj => ?_, tailB_true⟩
  unfold tailB at h
  rw [List.all_eq_true] at h
  simpa using h j (List.mem_range.2 hj)
theorem tailB_false {p : Nat → Int} {n : Nat} (k : Nat) (hk : k < 6) (h1 : ¬ k < n) (h2 : p k ≠ 0) : tailB p n = false := by
  cases h : tailB p n with
  | false => rfl
  | true => rcases tailB_iff.1 h k hk with h | h <;> contradiction
def fitsB (p : Nat → Int) (n : Nat) : Bool := validB p && tailB p n
theorem fits_no (n : Nat) (A : Option Addr) (c : Nat) (p : Nat → Int) (w : World) (hn : n ≤ 5000) (hv : validB p = false) : Calls Tryz.prog 168 #[.slice A n c, .agg (arr p)] w fun e w' => e = .returned (.bool (fitsB p n)) ∧ Below w.heap.size w w' := by
  have HF : Hid (fitsB p n = false) := by show fitsB p n = false; unfold fitsB; rw [hv]; rfl
  have CB := Lib.hid (fun w => bcheck_no p w hv)
  unfold arr at CB
  clear hv
  unfold arr
  go_enter Tryz.func168, Tryz.ntmps168
  go_wp2_with fail
  refine (CB.out _).mono ?_
  rintro e w1 ⟨rfl, b1⟩
  have B1 := Lib.hid (chain1 (Below.refl _ _) b1)
  clear b1
  go_wp2_with fail
  go_ret
  exact ⟨by rw [HF.out]; rfl, B1.out⟩
theorem fits_yes (n : Nat) (A : Option Addr) (c : Nat) (p : Nat → Int) (w : World) (hn : n ≤ 5000) (hv : validB p = true) : Calls Tryz.prog 168 #[.slice A n c, .agg (arr p)] w fun e w' => e = .returned (.bool (fitsB p n)) ∧ Below w.heap.size w w' := by
  have HF : Hid (∀ b, tailB p n = b → fitsB p n = b) := fun b h => by unfold fitsB; rw [hv, h]; rfl
  have CB := Lib.hid (fun w => bcheck_yes p w hv)
  have HK := Lib.hid (fun w1 (k : Below (w.alloc (.cells (arr p) 25)).heap.size (w.alloc (.cells (arr p) 25)) w1) => (box_new w p 25).below k (by go_size))
  have HI := Lib.hid (idx27 p)
  unfold arr at CB HI
  clear hv
  unfold arr
  go_enter Tryz.func168, Tryz.ntmps168
  go_wp2_with fail
  refine (CB.out _).mono ?_
  rintro e w1 ⟨rfl, d1⟩
  have K1 := Lib.hid (HK.out _ d1)
  have c1 := K1.out.cells
  have g1 := K1.out.lt
  have B1 := Lib.hid (chain1 (Below.refl _ _) d1)
  clear d1
  go_wp2_with fail
  clear c1 g1
  go_loop [11] (fun i => ∃ k : Nat, k ≤ 6 ∧ i = .int .i64 (k : Int) ∧ Hid (∀ j, j < k → j < n ∨ p j = 0)) (fun i => 6 - (intOf i).toNat)
  case atStart => exact ⟨0, by omega, rfl, fun j hj => by omega⟩
  case round =>
    obtain ⟨k, hk, rfl, HA⟩ := hrel
    by_cases hlt : k < 6
    · have hi' := HI.out k hlt
      have hd : decide ((k : Int) < 6) = true := by simp; omega
      have hi0 : (0 : Int) ≤ (k : Int) := by omega
      by_cases hkn : k < n
      · have d1 : decide (n ≤ k) = false := by simp; omega
        have HA2 : Hid (∀ j, j < k + 1 → j < n ∨ p j = 0) := fun j hj => by
          by_cases e : j = k
          · subst e; exact .inl hkn
          · exact HA.out j (by omega)
        go_wp2_with fail
        go_round
        case rel => exact ⟨k + 1, by omega, by go_num, HA2⟩
        case measure => simp [intOf]; omega
      · have d1 : decide (n ≤ k) = true := by simp; omega
        by_cases h0 : p k = 0
        · have q0 : (p k != 0) = false := by simpa using h0
          have HA2 : Hid (∀ j, j < k + 1 → j < n ∨ p j = 0) := fun j hj => by
            by_cases e : j = k
            · subst e; exact .inr h0
            · exact HA.out j (by omega)
          clear h0
          go_wp2_with fail
          go_round
          case rel => exact ⟨k + 1, by omega, by go_num, HA2⟩
          case measure => simp [intOf]; omega
        · have q0 : (p k != 0) = true := by simpa using h0
          have HR := Lib.hid (HF.out false (tailB_false k hlt hkn h0))
          clear h0
          go_wp2_with fail
          go_ret
          exact ⟨by rw [HR.out]; rfl, B1.out⟩
    · obtain rfl : k = 6 := by omega
      have hd : decide (((6 : Nat) : Int) < 6) = false := by simp
      have HR := Lib.hid (HF.out true (tailB_true HA.out))
      go_wp2_with fail
      go_ret
      exact ⟨by rw [HR.out]; rfl, B1.out⟩
theorem fits_any (n : Nat) (A : Option Addr) (c : Nat) (p : Nat → Int) (w : World) (hn : n ≤ 5000) : Calls Tryz.prog 168 #[.slice A n c, .agg (arr p)] w fun e w' => e = .returned (.bool (fitsB p n)) ∧ Below w.heap.size w w' := by
  cases hv : validB p with
  | false => exact fits_no n A c p w hn hv
  | true => exact fits_yes n A c p w hn hv
def rfitsB (p : Nat → Int) (l : List Prod) : Bool := checkE l == 0 && fitsB p l.length
end Cat
end Go.Proofs.YtjjlhihocllgjaaGreatDoor
