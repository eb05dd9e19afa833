/- Plain laws on append, over any program: from a slice that reads as a list, nil and empty ones too; as one step of a region that draws. Contract of NewScanner. Contracts of Format of both. -/
import Derived.Test.YtaikmgnpfbnjjaaGreatDoorPu02
import Derived.Test.YtaikmgnpfbnjjaaGreatDoorPu04
import Derived.Test.YtaikmgnpfbnjjaaGreatDoorPu07
import Derived.Test.YtaikmgnpfbnjjaaGreatDoorShelf
import Derived.Lib.SlBytesConst
import Derived.Deep.RegionLaw
import Derived.Deep.DrawnRows
import Derived.Lib.Join
import Derived.Laws.IdiomStrings
import Derived.Laws.Concat
namespace Go.Proofs.YtaikmgnpfbnjjaaGreatDoor
open Go.ChangeShapes Go.WideShapes Go.ChangeAt Go.RowKit
section
variable {P : Program} (w : World)
theorem wp_append_run {o : Oper} {a : Act} {K : Act → World → Prop} {Q : Exit → Act → World → Prop} (s x : Operand) (t t2 : TypeId)
    (ho : o.op = .call { callee := .builtin .append, args := #[s, x], argTypes := #[t, t2] }) (v u : Value) (hs : a.eval s = v) (hx : a.eval x = u) (r : Value) (w' : World)
    (hr : (Builtin.append_ #[t, t2] o.type #[v, u]).run P w = .ok r w') (h : K (a.put o.dst r) w') : o.wp P a w K Q := by
  unfold Oper.wp execOp
  simp only [ho, resolve, invoke, builtin, Sem.run_bind, Sem.run_pure, Result.andThen_ok, List.map_toArray, List.map_cons, List.map_nil, hs, hx, hr]
  exact h
/-- an append whose run is known -/
theorem wpList_append_run {ops : Array Oper} {rest : List Oper} {o : Oper} {a : Act} {Q : Exit → Act → World → Prop} (hgd : o.guard = none) (s x : Operand) (t t2 : TypeId)
    (ho : o.op = .call { callee := .builtin .append, args := #[s, x], argTypes := #[t, t2] }) (v u : Value) (hs : a.eval s = v) (hx : a.eval x = u) (r : Value) (w' : World)
    (hr : (Builtin.append_ #[t, t2] o.type #[v, u]).run P w = .ok r w') (h : wpList P ops Q rest (a.put o.dst r) w') : wpList P ops Q (o :: rest) a w :=
  wpList_plain hgd fun _ hK => wp_append_run w s x t t2 ho v u hs hx r w' hr (hK _ _ h)
/-- append onto a row of the call's own, as one step of a region that draws -/
theorem step_append_own {ops : Array Oper} {o : Oper} {a : Act} {K : Act → World → Prop} {Q : Exit → Act → World → Prop} {E : Prop} (hgd : o.guard = none) (s x : Operand) (t : TypeId)
    (ho : o.op = .call { callee := .builtin .append, args := #[s, x], argTypes := #[t, t] })
    (base : Nat) (e : TypeId) (i : TypeInfo) (z : Value) (size bytes : Nat) (ht : P.underlying t = some (.slice e)) (hi : P.info? e = some i) (hz : i.zero = some z)
    (hsize : i.size = size) (hby : i.bytes = bytes) (hzs : z.cells.size = size) (hsz : 0 < size)
    (v : Value) (n : Nat) (xs : List Value) (hs : a.eval s = v) (hown : w.ownsRow base e size v n xs)
    (ad : Addr) (m c : Nat) (news : List Value) (hx : a.eval x = .slice (some ad) m c) (hl : news.length = m * size) (hnews : ∀ j u, news[j]? = some u → w.cell? (ad.add j) = some u) (h1 : ∀ u ∈ news, u.oneCell' = true)
    (h63 : n + m ≤ maxLen) (hbytes : (n + m) * bytes ≤ 140737488355328) (hbase : base ≤ w.heap.size)
    (h : ∀ v' w', w'.ownsRow base e size v' (n + m) (xs ++ news) → w.grownBy w' v.ownBlock → (v' = .slice none 0 0 ↔ v = .slice none 0 0 ∧ m = 0) → K (a.put o.dst v') w') :
    if Region.wanted o (yielded ops a.tmps) = true then Oper.wp P o a w K Q else E := by
  have hw : Region.wanted o (yielded ops a.tmps) = true := by simp [Region.wanted, hgd]
  rw [if_pos hw]
  exact wp_append_own w s x t ho base e i z size bytes ht hi hz hsize hby hzs hsz v n xs hs hown ad m c news hx hl hnews h1 h63 hbytes hbase h
end
end Go.Proofs.YtaikmgnpfbnjjaaGreatDoor
namespace Go.Proofs.YtaikmgnpfbnjjaaGreatDoor
open Go.ChangeShapes Go.WideShapes Go.ChangeAt Go.RowKit
section
variable {P : Program} (w : World)
/-- append of no elements onto nil -/
theorem run_append_none (t ty e : TypeId) (i : TypeInfo) (ht : P.underlying t = some (.slice e)) (hi : P.info? e = some i) (A : Option Addr) (c : Nat) :
    (Builtin.append_ #[t, t] ty #[.slice none 0 0, .slice A 0 c]).run P w = .ok (.slice none 0 0) w := by
  cases A with
  | none => simp [Builtin.append_, run_underlying ht, sizeOf, typeInfo, hi, Builtin.lenOf, Builtin.firstCells]
  | some a => simp [Builtin.append_, run_underlying ht, sizeOf, typeInfo, hi, Builtin.lenOf, Builtin.firstCells, loadCells, loadCellsFrom]
end
namespace Lex
theorem own_scan {w : World} {base : Nat} {te : TypeId} {v : Value} {L : List Tok} (h : w.ownsRow base te 4 v L.length (cellsOf L)) :
    ∃ A c, v = .slice A L.length c ∧ L.length ≤ c ∧ c ≤ maxLen ∧ (0 < L.length → ∃ b o cs, A = some ⟨b, o, none⟩ ∧ Blk w b te cs ∧ TokRow w b o L) := by
  have hs := Sl.of_own h
  rcases h.2 with ⟨rfl, h0⟩ | ⟨g, cap, cur, rfl, _, hh, hn, hc, _, _⟩
  · exact ⟨none, 0, by rw [h0], by omega, by unfold maxLen; omega, fun h => by omega⟩
  · refine ⟨_, cap, rfl, hn, hc, fun hp => ?_⟩
    obtain ⟨_, A, c, e, _, _, hr⟩ := hs
    obtain ⟨b, o, e2, _, hr2⟩ := hr hp
    injection e with e3
    subst e3
    injection e2 with e4
    injection e4 with e5 e6
    subst e5
    exact ⟨_, _, cur, rfl, hh, by rw [e6]; exact hr2⟩
theorem scan_new {w : World} {base : Nat} {ts te : TypeId} {v : Value} {L : List Tok} (h : w.ownsRow base te 4 v L.length (cellsOf L)) (e : Int) :
    Scan ts te (w.alloc (.cells #[v, .int .i64 e] ts)) w.heap.size L e := by
  obtain ⟨A, c, rfl, h1, h2, h3⟩ := own_scan h
  refine ⟨A, c, Blk.new _ _ _, h1, h2, fun hp => ?_⟩
  obtain ⟨b, o, cs, e1, e2, e3⟩ := h3 hp
  exact ⟨b, o, cs, e1, e2.alloc _, e3.keep e2 (e2.alloc _)⟩
def NewPost (L : List Tok) (w : World) (r : Ending) (w' : World) : Prop :=
  ∃ g, r = .returned (.pointer (some ⟨g, 0, none⟩)) ∧ w.heap.size ≤ g ∧ Scan 161 157 w' g L 0 ∧ Below w.heap.size w w'
set_option maxRecDepth 100000 in
theorem newScanner_any (L : List Tok) (v : Value) (w : World) (hL : L.length ≤ 5000) (h : Sl w 4 v L.length (cellsOf L)) :
    Calls Tryz.prog 112 #[v] w (NewPost L w) := by
  obtain ⟨i0, hi0, hz0, hz1, hz2⟩ := info_parts tok_info
  obtain ⟨A, c, rfl, hc, hm, hr⟩ := sl_cases h
  cases L with
  | nil =>
    have HA := Lib.hid fun w => run_append_none (P := Tryz.prog) w 137 137 157 i0 Tryz.underlying137 hi0 A c
    clear hr h hm hc
    go_enter Tryz.func112, Tryz.ntmps112
    go_wp2_with (at_builtin; refine wpList_append_run _ rfl (.const (.slice none 0 0)) (.tmp 3) _ _ rfl (.slice none 0 0) (.slice A 0 c) rfl rfl _ _ (HA.out _) ?_)
    go_ret
    exact ⟨_, rfl, Nat.le_refl _, scan_new (World.ownsRow_nil w w.heap.size _ _) 0, below_new _ _⟩
  | cons t L =>
    obtain ⟨b, o, rfl, hb, hrow⟩ := hr (by simp)
    have HM := Lib.hid hm
    have HC := Lib.hid hc
    have HR := Lib.hid hrow
    have HL := Lib.hid hL
    have h1 : ∀ u ∈ cellsOf (t :: L), u.oneCell' = true := by
      intro u hu
      obtain ⟨x, _, hx⟩ := List.mem_flatMap.1 hu
      exact one_cells4 rfl rfl rfl rfl u hx
    have H1 := Lib.hid h1
    have HN := Lib.hid (cellsOf_len (t :: L))
    clear hrow hm hc hL h1 h
    generalize ht : (t :: L : List Tok) = M at *
    clear ht t L
    go_enter Tryz.func112, Tryz.ntmps112
    go_wp2_with (at_builtin; refine wpList_append_own _ rfl (.const (.slice none 0 0)) (.tmp 3) _ rfl w.heap.size 157 i0 _ 4 40 Tryz.underlying137 hi0 hz0 hz1 hz2 rfl (by decide) (.slice none 0 0) 0 [] rfl (World.ownsRow_nil _ _ _ _) ⟨b, o, none⟩ M.length c (cellsOf M) rfl HN.out ?c1 H1.out ?c3 ?c4 (Nat.le_refl _) ?_)
    case c1 =>
      intro j u hj
      rw [OpenAdd.add_at]
      exact HR.out j u hj
    case c3 => have := HL.out; unfold maxLen; omega
    case c4 => have := HL.out; omega
    intro v' w1 hown hgr _
    have O1 := Lib.hid hown
    have B1 : Hid (Below w.heap.size w w1) := (Below.refl _ _).grown hgr (Nat.le_refl _) (by simp [Value.ownBlock])
    obtain ⟨A2, c2, rfl, _, _, _⟩ := own_scan hown
    clear hown hgr
    go_wp2_with fail
    go_ret
    exact ⟨_, rfl, B1.out.size, scan_new O1.out 0, B1.out.alloc B1.out.size _⟩
end Lex
end Go.Proofs.YtaikmgnpfbnjjaaGreatDoor
namespace Go.Proofs.YtaikmgnpfbnjjaaGreatDoor
open Go.ChangeShapes Go.WideShapes Go.ChangeAt Go.RowKit
set_option linter.unusedVariables false
set_option linter.unusedSimpArgs false
namespace Cat
open Lex
def digS (n : Int) : ByteArray := ⟨#[UInt8.ofNat (48 + n).toNat]⟩
def elemS (p : Prod) (n : Int) : ByteArray := p.name ++ ⟨#[58]⟩ ++ digS n
def fparts (b : Nat → Int) (l : List Prod) : Nat → List ByteArray
  | 0 => []
  | k + 1 => fparts b l k ++ (if 0 < b k then [elemS (l.getD k Prod.none) (b k)] else [])
theorem fparts_len (b : Nat → Int) (l : List Prod) : ∀ k, (fparts b l k).length ≤ k
  | 0 => by simp [fparts]
  | k + 1 => by
    have := fparts_len b l k
    unfold fparts
    split <;> simp <;> omega
def joinS (xs : List ByteArray) : ByteArray := ⟨(Lib.join (xs.map (·.data.toList)) [44]).toArray⟩
theorem joinS_nil : joinS [] = ⟨#[]⟩ := rfl
theorem elemS_size {p : Prod} {n : Int} (h : p.name.size ≤ 12) : (elemS p n).size ≤ 14 := by
  unfold elemS digS
  simp only [ByteArray.size_append]
  show p.name.size + 1 + 1 ≤ 14
  omega
theorem joinTail_len (r : List (List UInt8)) (h : ∀ x ∈ r, x.length ≤ 14) : (Lib.joinTail [44] r).length ≤ 15 * r.length := by
  induction r with
  | nil => simp [Lib.joinTail]
  | cons y r ih =>
    have h1 := h y (by simp)
    have h2 := ih (fun x hx => h x (by simp [hx]))
    have e : Lib.joinTail [44] (y :: r) = [44] ++ y ++ Lib.joinTail [44] r := by simp [Lib.joinTail]
    rw [e]
    simp
    omega
theorem joinS_size (xs : List ByteArray) (h : ∀ x ∈ xs, x.size ≤ 14) : (joinS xs).size ≤ 15 * xs.length := by
  show (Lib.join _ _).toArray.size ≤ _
  cases xs with
  | nil => simp [Lib.join_nil]
  | cons y r =>
    have h1 := h y (by simp)
    have h2 := joinTail_len (r.map (·.data.toList)) (by
      intro x hx
      obtain ⟨z, hz, rfl⟩ := List.mem_map.1 hx
      exact h z (by simp [hz]))
    have h3 : y.data.toList.length ≤ 14 := h1
    rw [List.map_cons, Lib.join_cons]
    simp at h2 h3 ⊢
    omega
theorem fparts_mem {b : Nat → Int} {l : List Prod} (h : ∀ p ∈ l, p.name.size ≤ 12) : ∀ k, k ≤ l.length → ∀ x ∈ fparts b l k, x.size ≤ 14
  | 0, _, x, hx => by cases hx
  | k + 1, hk, x, hx => by
    unfold fparts at hx
    rcases List.mem_append.1 hx with hx | hx
    · exact fparts_mem h k (by omega) x hx
    · split at hx
      · rw [List.mem_singleton.1 hx, getD_prod l k (by omega)]
        exact elemS_size (h _ (List.getElem_mem _))
      · cases hx
def strs (xs : List ByteArray) : List Value := xs.map .string
theorem nameOk_size {s : ByteArray} (h : nameOk s = true) : s.size ≤ 12 := by
  cases Nat.lt_or_ge 12 s.size with
  | inl k => rw [nameOk_long s (.inr k)] at h; cases h
  | inr k => exact k
theorem own_form {w : World} {base : Nat} {e : TypeId} {size n : Nat} {v : Value} {xs : List Value} (h : w.ownsRow base e size v n xs) : ∃ A c, v = .slice A n c := by
  obtain ⟨_, A, c, e, _⟩ := Sl.of_own h
  exact ⟨A, c, e⟩
theorem add_colon (s : ByteArray) (h : s.size ≤ 12) (W : World) : (Op.stringOp .add s ⟨#[58]⟩).run Tryz.prog W = .ok (.string (s ++ ⟨#[58]⟩)) W := run_string_add_sum W _ _ (by
  show s.size + 1 ≤ _
  omega)
theorem add_dig (s : ByteArray) (x : Int) (h : s.size ≤ 12) (W : World) : (Op.stringOp .add (s ++ ⟨#[58]⟩) ⟨#[UInt8.ofNat x.toNat]⟩).run Tryz.prog W = .ok (.string (s ++ ⟨#[58]⟩ ++ ⟨#[UInt8.ofNat x.toNat]⟩)) W := run_string_add_sum W _ _ (by
  rw [ByteArray.size_append]
  show s.size + 1 + 1 ≤ _
  omega)
theorem u8_small (x : Int) (h0 : 0 ≤ x) (h1 : x ≤ 255) : IntKind.u8.wrap x = x := IntWalk.u8_in x ⟨h0, h1⟩
theorem own_far {w : World} {base : Nat} {e : TypeId} {size n : Nat} {v : Value} {xs : List Value} (h : w.ownsRow base e size v n xs) : ∀ g, v.ownBlock = some g → base ≤ g ∧ g < w.heap.size := by
  rcases h.2 with ⟨rfl, _⟩ | ⟨g', cap, cur, rfl, hb, hh, _⟩
  · intro g hg
    simp [Value.ownBlock] at hg
  · intro g hg
    have : g' = g := by simpa [Value.ownBlock] using hg
    subst this
    exact ⟨hb, (Array.getElem?_eq_some_iff.1 hh).1⟩
theorem one_new (W : World) (x : Value) (T : TypeId) (g : Nat) (hg : W.heap.size = g) : ∀ (j : Nat) u, [x][j]? = some u → (W.alloc (.cells #[x] T)).drew.cell? ((⟨g, 0, none⟩ : Addr).add j) = some u := by
  subst hg
  intro j u hu
  rw [OpenAdd.add_at]
  have : j = 0 := by
    rcases j with _ | j
    · rfl
    · simp at hu
  subst this
  simpa [go_sem] using hu
theorem str_info : (Tryz.prog.info? 9).map (fun i => (i.zero, i.size, i.bytes)) = some (some (.string ⟨#[]⟩), 1, 16) := by kernel_rfl
theorem Box.grown {w w' : World} {row : Option Nat} {b : Nat} {p : Nat → Int} (h : Box w b p) (hb : w.grownBy w' row) (hg : some b ≠ row) : Box w' b p := by
  obtain ⟨T, k⟩ := h.blk
  exact ⟨T, (hb.block b h.lt hg).trans k⟩
theorem grow3 (w : World) (B : Nat) (o1 o2 o3 : Obj) (h : B ≤ w.heap.size) : Below B w (((w.alloc o1).alloc o2).alloc o3).drew := ((((Below.refl _ _).alloc (by go_size) _).alloc (by go_size) _).alloc (by go_size) _).drew
theorem grown_below {w w' : World} {B : Nat} {row : Option Nat} (hb : w.grownBy w' row) (hr : ∀ g, row = some g → B ≤ g) (hB : B ≤ w.heap.size) : Below B w w' :=
  ⟨hb.os, hb.tape, hb.output, hb.size, fun k hk => hb.block k (by omega) (fun e => by have := hr k e.symm; omega)⟩
theorem add_open (s : ByteArray) (h : s.size ≤ 1000) (W : World) : (Op.stringOp .add ⟨#[123]⟩ s).run Tryz.prog W = .ok (.string (⟨#[123]⟩ ++ s)) W := run_string_add_sum W _ _ (by
  show 1 + s.size ≤ _
  omega)
theorem add_close (s : ByteArray) (h : s.size ≤ 1000) (W : World) : (Op.stringOp .add (⟨#[123]⟩ ++ s) ⟨#[125]⟩).run Tryz.prog W = .ok (.string (⟨#[123]⟩ ++ s ++ ⟨#[125]⟩)) W := run_string_add_sum W _ _ (by
  rw [ByteArray.size_append]
  show 1 + s.size + 1 ≤ _
  omega)
theorem joinS_size2 (xs : List ByteArray) (h : (joinS xs).size ≤ 1000) : (Lib.join (xs.map (·.data.toList)) (⟨#[44]⟩ : ByteArray).data.toList).length ≤ 140737488355328 := by
  have e : (joinS xs).size = (Lib.join (xs.map (·.data.toList)) (⟨#[44]⟩ : ByteArray).data.toList).length := rfl
  omega
theorem strs_read {w : World} {base : Nat} {e : TypeId} {v : Value} {xs : List ByteArray} (h : w.ownsRow base e 1 v xs.length (strs xs)) (h0 : 0 < xs.length) :
    ∃ g c, v = .slice (some ⟨g, 0, none⟩) xs.length c ∧ g < w.heap.size ∧ xs.length ≤ c ∧ ∀ (j : Nat) x, xs[j]? = some x → w.cell? ⟨g, 0 + j, none⟩ = some (.string x) := by
  rcases h.2 with ⟨_, e⟩ | ⟨g, cap, cur, rfl, _, hh, hn, _⟩
  · omega
  · refine ⟨g, cap, rfl, (Array.getElem?_eq_some_iff.1 hh).1, hn, fun j x hx => ?_⟩
    have hj : (strs xs)[j]? = some (.string x) := by simp [strs, hx]
    have := h.cells (g := g) rfl j _ hj
    rw [← this, OpenAdd.add_at]
theorem conv_digit (W : World) (g : Nat) (x : Int) (h0 : 0 ≤ x) (h1 : x ≤ 255) (hc : W.cell? ⟨g, 0, none⟩ = some (.int .u8 x)) : (convert 106 9 (.slice (some ⟨g, 0, none⟩) 1 1)).run Tryz.prog W = .ok (.string ⟨#[UInt8.ofNat x.toNat]⟩) W := by
  have := run_convert_bytes_back (P := Tryz.prog) W 106 9 5 ⟨g, 0, none⟩ 1 [UInt8.ofNat x.toNat] (by kernel_rfl) (by kernel_rfl) (by kernel_rfl) ?_
  · exact this
  · intro j hj
    obtain rfl : j = 0 := by simpa using hj
    show W.cell? ⟨g, 0, none⟩ = _
    have e : ((UInt8.ofNat x.toNat).toNat : Int) = x := by simp; omega
    rw [show [UInt8.ofNat x.toNat][0] = UInt8.ofNat x.toNat from rfl, e]
    exact hc
set_option maxRecDepth 100000 in
set_option maxHeartbeats 4000000 in
theorem format_some (l : List Prod) (b1 o1 c : Nat) (b : Nat → Int) (w : World) (hc : l.length ≤ c) (hm : c ≤ maxLen) (h1 : ProdRow w b1 o1 l) (hn : ∀ p ∈ l, p.name.size ≤ maxLen) (hz : checkE l = 0) (hv : fitsB b l.length = true) :
    Calls Tryz.prog 45 #[.slice (some ⟨b1, o1, none⟩) l.length c, .agg (arr b)] w fun e w' => e = .returned (.string (⟨#[123]⟩ ++ joinS (fparts b l l.length) ++ ⟨#[125]⟩)) ∧ Below w.heap.size w w' := by
  obtain ⟨h0, h6, hg⟩ := checkE_zero hz
  have hb1 : b1 < w.heap.size := block_lt_of_cell (h1.at_ 0 h0).1
  have HR := Lib.hid fun w' => h1.below (w' := w') hb1
  have CC := Lib.hid (fun w' (k : Below w.heap.size w w') => check_some l b1 o1 c w' h6 h0 hc hm (HR.out w' k) hn)
  have CF := Lib.hid (fun w' => fits_any l.length (some ⟨b1, o1, none⟩) c b w' (by omega))
  rw [hv] at CF
  have hz2 : (checkE l != 0) = false := by simpa using hz
  have HK := Lib.hid (fun w1 (k : Below (w.alloc (.cells (arr b) 23)).heap.size (w.alloc (.cells (arr b) 23)) w1) => (box_new w b 23).below k (by go_size))
  have hvb : validB b = true := by unfold fitsB at hv; simp at hv; exact hv.1
  have HV := Lib.hid (validB_iff.1 hvb)
  have HX := Lib.hid (fparts_mem (b := b) (l := l) (fun p hp => nameOk_size (checkGo_range l 0 hg p hp).2))
  have HU : Hid (∀ k, fparts b l (k + 1) = fparts b l k ++ (if 0 < b k then [elemS (l.getD k Prod.none) (b k)] else [])) := fun _ => rfl
  have HL := Lib.hid (fparts_len b l)
  have HN := Lib.hid (fun p hp => nameOk_size (checkGo_range l 0 hg p hp).2)
  clear h1 hn hz hv hg hvb
  unfold arr at CF
  unfold maxLen at hm
  unfold arr
  obtain ⟨j0, hj0, hy0, hy1, hy2⟩ := info_parts str_info
  go_enter Tryz.func45, Tryz.ntmps45
  go_wp2_with fail
  refine (CC.out _ (below_new _ _)).mono ?_
  rintro e w1 ⟨rfl, d1⟩
  have K1 := Lib.hid (HK.out _ d1)
  have c1 := K1.out.cells
  have g1 := K1.out.lt
  have B1 := Lib.hid (chain1 (Below.refl _ _) d1)
  clear d1
  go_wp2_with fail
  refine (CF.out _).mono ?_
  rintro e w2 ⟨rfl, d2⟩
  have B2 := Lib.hid (chain0 B1.out d2)
  have K2 := Lib.hid (K1.out.below d2 g1)
  clear d2 c1 g1
  go_wp2_with fail
  go_loopw [19, 5] (fun i v wr => ∃ k : Nat, k ≤ l.length ∧ i = .int .i64 (k : Int) ∧ Hid (wr.ownsRow (w.heap.size + 1) 9 1 v (fparts b l k).length (strs (fparts b l k))) ∧ Hid (Box wr w.heap.size b) ∧ Hid (Below w.heap.size w wr)) (fun i _ _ => l.length - (intOf i).toNat)
  case atStart => exact ⟨0, by omega, rfl, ⟨rfl, .inl ⟨rfl, rfl⟩⟩, K2.out, B2.out⟩
  case round =>
    obtain ⟨k, hk, rfl, O, K, B⟩ := hrel
    by_cases hlt : k < l.length
    · have hd : decide ((k : Int) < (l.length : Int)) = true := by simp; omega
      have hi0 : (0 : Int) ≤ (k : Int) := by omega
      have hk6 : k < 6 := by omega
      have h6k : (k : Int) < 6 := by omega
      have et := (HR.out _ B.out).at_ k hlt
      have hbr : b1 < wr.heap.size := by have := B.out.size; omega
      have hbk := K.out.cell k hk6
      have gz := K.out.lt
      have hbb := HV.out k hk6
      have E := Lib.hid (HU.out k)
      rw [getD_prod l k hlt] at E
      have hfl := HL.out k
      have hps := HN.out l[k] (List.getElem_mem hlt)
      generalize l[k] = p at *
      by_cases hp : 0 < b k
      · have hpd : decide (0 < b k) = true := decide_eq_true hp
        have HE := Lib.hid (show fparts b l (k + 1) = fparts b l k ++ [elemS p (b k)] by rw [E.out, if_pos hp])
        clear hp E
        generalize fparts b l k = xs at *
        have a1 := add_colon p.name hps
        have a2 := add_dig p.name (48 + b k) hps
        have a3 := u8_small (48 + b k) (by omega) (by omega)
        have a5 : IntKind.i64.wrap (48 + b k) = 48 + b k := IntWalk.i64_in _ (by omega)
        have a4 := conv_digit ((wr.alloc (.cells #[.string p.name, .int .i64 p.supply, .int .i64 p.reserve, .int .i64 p.points, .int .i64 p.group] 98)).alloc (.cells #[.int .u8 (48 + b k)] 5)).drew (wr.heap.size + 1) (48 + b k) (by omega) (by omega) (by simp [go_sem])
        obtain ⟨A5, c5, rfl⟩ := own_form O.out
        have far : ∀ x, (x ≤ w.heap.size ∨ wr.heap.size ≤ x) → some x ≠ (Value.slice A5 xs.length c5).ownBlock := fun x hx e => by have := own_far O.out x e.symm; omega
        have KP := Lib.hid (Blk.new wr 98 #[.string p.name, .int .i64 p.supply, .int .i64 p.reserve, .int .i64 p.points, .int .i64 p.group])
        have HKk : Hid (∀ W', Below wr.heap.size wr W' → W'.cell? ⟨w.heap.size, k, none⟩ = some (.int .i64 (b k))) := fun W' h => (K.out.below h gz).cell k hk6
        go_wp2_with fail
        refine wp_region_held_drew (S := (fun w' => w'.cell? ⟨wr.heap.size, 0, none⟩ = some (.string p.name) ∧ w'.cell? ⟨w.heap.size, k, none⟩ = some (.int .i64 (b k)))) (by kernel_rfl) ?_ (fun hHeld => ?_)
        · (try dsimp only)
          (refine ⟨?_, ?_⟩ <;> first | exact z1 | exact z2 | exact HKk.out _ (by first | go_grown | exact ((((Below.refl _ _).alloc (by go_size) _).alloc (by go_size) _).alloc (by go_size) _).drew) | go_keep)
        refine wpAnyH_take (i := 0) (v := ?v0) rfl (by kernel_rfl) (by kernel_rfl) (by kernel_rfl) (fun _ _ _ h => h) (Or.inl ⟨by rfl, ?h0⟩) (by assumption) ?r0
        case h0 => intro w hSw; (try dsimp only at hSw); go_simp; try with_reducible rfl
        try simp only [Act.put, List.setIfInBounds_toArray, List.set_cons_zero, List.set_cons_succ]
        refine wpAnyH_take (i := 1) (v := ?v1) rfl (by kernel_rfl) (by kernel_rfl) (by kernel_rfl) (fun _ _ _ h => h) (Or.inl ⟨by rfl, ?h1⟩) (by assumption) ?r1
        case h1 => intro w hSw; (try dsimp only at hSw); go_simp; try with_reducible rfl
        try simp only [Act.put, List.setIfInBounds_toArray, List.set_cons_zero, List.set_cons_succ]
        refine wpAnyH_take (i := 2) (v := ?v2) rfl (by kernel_rfl) (by kernel_rfl) (by kernel_rfl) (fun _ _ _ h => h) (Or.inl ⟨by rfl, ?h2⟩) (by assumption) ?r2
        case h2 => intro w hSw; (try dsimp only at hSw); go_simp; try with_reducible rfl
        try simp only [Act.put, List.setIfInBounds_toArray, List.set_cons_zero, List.set_cons_succ]
        refine wpAnyH_take (i := 3) (v := ?v3) rfl (by kernel_rfl) (by kernel_rfl) (by kernel_rfl) (fun _ _ _ h => h) (Or.inl ⟨by rfl, ?h3⟩) (by assumption) ?r3
        case h3 => intro w hSw; (try dsimp only at hSw); go_simp; try with_reducible rfl
        try simp only [Act.put, List.setIfInBounds_toArray, List.set_cons_zero, List.set_cons_succ]
        refine wpAnyH_take (i := 4) (v := ?v4) rfl (by kernel_rfl) (by kernel_rfl) (by kernel_rfl) (fun _ _ _ h => h) (Or.inl ⟨by rfl, ?h4⟩) (by assumption) ?r4
        case h4 => intro w hSw; (try dsimp only at hSw); go_simp; try with_reducible rfl
        try simp only [Act.put, List.setIfInBounds_toArray, List.set_cons_zero, List.set_cons_succ]
        refine wpAnyH_take (i := 5) (v := ?v5) rfl (by kernel_rfl) (by kernel_rfl) (by kernel_rfl) (fun _ _ _ h => h) (Or.inl ⟨by rfl, ?h5⟩) (by assumption) ?r5
        case h5 => intro w hSw; (try dsimp only at hSw); go_simp; try with_reducible rfl
        try simp only [Act.put, List.setIfInBounds_toArray, List.set_cons_zero, List.set_cons_succ]
        refine wpAnyH_take (i := 6) (v := ?v6) rfl (by kernel_rfl) (by kernel_rfl) (by kernel_rfl) (fun _ _ _ h => h) (Or.inl ⟨by rfl, ?h6⟩) (by assumption) ?r6
        case h6 => intro w hSw; (try dsimp only at hSw); go_simp; try with_reducible rfl
        try simp only [Act.put, List.setIfInBounds_toArray, List.set_cons_zero, List.set_cons_succ]
        refine wpAnyH_take (i := 7) (v := ?v7) rfl (by kernel_rfl) (by kernel_rfl) (by kernel_rfl) (fun _ _ _ h => h) (Or.inl ⟨by rfl, ?h7⟩) (by assumption) ?r7
        case h7 => intro w hSw; (try dsimp only at hSw); go_simp; try with_reducible rfl
        try simp only [Act.put, List.setIfInBounds_toArray, List.set_cons_zero, List.set_cons_succ]
        refine wpAnyH_take (i := 8) (v := ?v8) rfl (by kernel_rfl) (by kernel_rfl) (by kernel_rfl) (fun _ _ _ h => h) (Or.inl ⟨by rfl, ?h8⟩) (by assumption) ?r8
        case h8 => intro w hSw; (try dsimp only at hSw); go_simp; try with_reducible rfl
        try simp only [Act.put, List.setIfInBounds_toArray, List.set_cons_zero, List.set_cons_succ]
        refine wpAnyH_ready (rs := [9]) (by kernel_rfl) (by simp) ?_
        refine AllReadyH.cons (o := ?o9) ?ho9 (fun KK hKK => ?st9) AllReadyH.nil
        case ho9 => (simp only [List.getElem?_toArray, List.getElem?_cons_succ, List.getElem?_cons_zero]; rfl)
        go_simp
        refine hKK.out _ _ ?_ (fun hHeld2 => ?_)
        · (try dsimp only)
          (refine ⟨?_, ?_⟩ <;> first | exact z1 | exact z2 | exact HKk.out _ (by first | go_grown | exact ((((Below.refl _ _).alloc (by go_size) _).alloc (by go_size) _).alloc (by go_size) _).drew) | go_keep)
        clear hKK KK hHeld
        have hHeld := hHeld2
        clear hHeld2
        try simp only [Act.put, List.setIfInBounds_toArray, List.set_cons_zero, List.set_cons_succ]
        refine wpAnyH_ready (rs := [10]) (by kernel_rfl) (by simp) ?_
        refine AllReadyH.cons (o := ?o10) ?ho10 (fun KK hKK => ?st10) AllReadyH.nil
        case ho10 => (simp only [List.getElem?_toArray, List.getElem?_cons_succ, List.getElem?_cons_zero]; rfl)
        go_simp
        refine hKK.out _ _ ?_ (fun hHeld2 => ?_)
        · (try dsimp only)
          (refine ⟨?_, ?_⟩ <;> first | exact z1 | exact z2 | exact HKk.out _ (by first | go_grown | exact ((((Below.refl _ _).alloc (by go_size) _).alloc (by go_size) _).alloc (by go_size) _).drew) | go_keep)
        clear hKK KK hHeld
        have hHeld := hHeld2
        clear hHeld2
        try simp only [Act.put, List.setIfInBounds_toArray, List.set_cons_zero, List.set_cons_succ]
        refine wpAnyH_take (i := 11) (v := ?v11) rfl (by kernel_rfl) (by kernel_rfl) (by kernel_rfl) (fun _ _ _ h => h) (Or.inl ⟨by rfl, ?h11⟩) (by assumption) ?r11
        case h11 => intro w hSw; (try dsimp only at hSw); go_simp; try with_reducible rfl
        try simp only [Act.put, List.setIfInBounds_toArray, List.set_cons_zero, List.set_cons_succ]
        refine wpAnyH_ready (rs := [12]) (by kernel_rfl) (by simp) ?_
        refine AllReadyH.cons (o := ?o12) ?ho12 (fun KK hKK => ?st12) AllReadyH.nil
        case ho12 => (simp only [List.getElem?_toArray, List.getElem?_cons_succ, List.getElem?_cons_zero]; rfl)
        go_simp
        refine hKK.out _ _ ?_ (fun hHeld2 => ?_)
        · (try dsimp only)
          (refine ⟨?_, ?_⟩ <;> first | exact z1 | exact z2 | exact HKk.out _ (by first | go_grown | exact ((((Below.refl _ _).alloc (by go_size) _).alloc (by go_size) _).alloc (by go_size) _).drew) | go_keep)
        clear hKK KK hHeld
        have hHeld := hHeld2
        clear hHeld2
        try simp only [Act.put, List.setIfInBounds_toArray, List.set_cons_zero, List.set_cons_succ]
        refine wpAnyH_ready (rs := [13]) (by kernel_rfl) (by simp) ?_
        refine AllReadyH.cons (o := ?o13) ?ho13 (fun KK hKK => ?st13) AllReadyH.nil
        case ho13 => (simp only [List.getElem?_toArray, List.getElem?_cons_succ, List.getElem?_cons_zero]; rfl)
        ((refine step_append_own _ (by rfl) (.tmp 28) (.tmp 40) _ (by rfl) (w.heap.size + 1) 9 j0 _ 1 16 Tryz.underlying54 hj0 hy0 hy1 hy2 rfl (by decide) (.slice A5 xs.length c5) xs.length (strs xs) (by rfl) (own_below O.out (by go_grown)) ⟨wr.heap.size + 2, 0, none⟩ 1 1 [.string (p.name ++ ⟨#[58]⟩ ++ digS (b k))] (by rfl) (by rfl) (one_new _ _ _ _ (by simp)) (by intro u hu; simp at hu; subst hu; rfl) (by unfold maxLen; omega) (by omega) (by simp; omega) ?_; intro v' w2 hown hgr _; obtain ⟨A6, c6, rfl⟩ := own_form hown; have O6 := Lib.hid hown; clear hown; have B6 := Lib.hid ((B.out.trans (grow3 wr w.heap.size _ _ _ (by omega))).trans (grown_below (B := w.heap.size) hgr (fun g hg => by have := own_far O.out g hg; omega) (by simp; omega))); have KP2 := Lib.hid ((((KP.out.alloc _).alloc _).drew).grown hgr (far _ (by omega))); have z1 : w2.cell? ⟨wr.heap.size, 0, none⟩ = some (.string p.name) := KP2.out.cell 0; have KB2 := Lib.hid (((((K.out.alloc _).alloc _).alloc _).drew).grown hgr (far _ (by omega))); have z2 : w2.cell? ⟨w.heap.size, k, none⟩ = some (.int .i64 (b k)) := KB2.out.cell k hk6; clear hgr))
        refine hKK.out _ _ ?_ (fun hHeld2 => ?_)
        · (try dsimp only)
          (refine ⟨?_, ?_⟩ <;> first | exact z1 | exact z2 | exact HKk.out _ (by first | go_grown | exact ((((Below.refl _ _).alloc (by go_size) _).alloc (by go_size) _).alloc (by go_size) _).drew) | go_keep)
        clear hKK KK hHeld
        have hHeld := hHeld2
        clear hHeld2
        try simp only [Act.put, List.setIfInBounds_toArray, List.set_cons_zero, List.set_cons_succ]
        refine wpAnyH_take (i := 14) (v := ?v14) rfl (by kernel_rfl) (by kernel_rfl) (by kernel_rfl) (fun _ _ _ h => h) (Or.inl ⟨by rfl, ?h14⟩) (by assumption) ?r14
        case h14 => intro w hSw; (try dsimp only at hSw); go_simp; try with_reducible rfl
        try simp only [Act.put, List.setIfInBounds_toArray, List.set_cons_zero, List.set_cons_succ]
        refine wpAnyH_done (by kernel_rfl) ?_ _
        go_wp2_with fail
        go_roundw
        case rel => exact ⟨k + 1, by omega, by go_num, (by show w2.ownsRow _ _ _ _ _ _; rw [HE.out]; unfold strs; simp only [List.length_append, List.map_append]; exact O6.out), KB2.out, B6.out⟩
        case measure => simp [intOf]; omega
      · have hpd : decide (0 < b k) = false := decide_eq_false hp
        have HE := Lib.hid (show fparts b l (k + 1) = fparts b l k by rw [E.out, if_neg hp, List.append_nil])
        clear hp E
        go_wp2_with fail
        go_roundw
        case rel => exact ⟨k + 1, by omega, by go_num, by show World.ownsRow _ _ _ _ _ _ _; rw [HE.out]; exact own_below O.out (by go_grown), K.out.alloc _, B.out.alloc B.out.size _⟩
        case measure => simp [intOf]; omega
    · obtain rfl : k = l.length := by omega
      have hd : decide ((l.length : Int) < (l.length : Int)) = false := by simp
      have hfl := HL.out l.length
      have HSZ := Lib.hid (joinS_size _ (HX.out l.length (by omega)))
      generalize hxs : fparts b l l.length = xs at *
      have HXX := Lib.hid hxs
      clear hxs
      have g1 := fun W => add_open (joinS xs) (by have := HSZ.out; omega) W
      have g2 := fun W => add_close (joinS xs) (by have := HSZ.out; omega) W
      have hN : xs.length ≤ 6 := by omega
      rcases Nat.eq_zero_or_pos xs.length with h0 | h0
      · obtain rfl : xs = [] := List.eq_nil_of_length_eq_zero h0
        obtain ⟨A5, c5, rfl⟩ := own_form O.out
        rw [joinS_nil] at *
        go_wp2_with (go_at_call 78; refine (Tryz.strings_Join_none _ _ _ _).mono ?_; rintro e w3 ⟨rfl, rfl⟩)
        go_ret
        exact ⟨by rw [HXX.out]; rfl, B.out⟩
      · have hJ := Lib.hid (joinS_size2 xs (by have := HSZ.out; omega))
        have SJ := Lib.hid (strs_read O.out h0)
        clear h0
        obtain ⟨g5, c5, hv5, hlt5, hcc, hcells⟩ := SJ.out
        subst hv5
        have HC := Lib.hid hcells
        clear hcells
        go_wp2_with fail
        refine (Tryz.strings_Join _ _ _ xs _ _ HC.out hlt5 (by omega) hcc hJ.out).mono ?_
        rintro e w3 ⟨rfl, d3⟩
        have B3 := Lib.hid (chain0 B.out d3)
        clear d3
        have e3 : Hid ((⟨(Lib.join (xs.map (·.data.toList)) (⟨#[44]⟩ : ByteArray).data.toList).toArray⟩ : ByteArray) = joinS xs) := rfl
        rw [e3.out]
        go_wp2_with fail
        go_ret
        exact ⟨by rw [HXX.out]; rfl, B3.out⟩
end Cat
end Go.Proofs.YtaikmgnpfbnjjaaGreatDoor
