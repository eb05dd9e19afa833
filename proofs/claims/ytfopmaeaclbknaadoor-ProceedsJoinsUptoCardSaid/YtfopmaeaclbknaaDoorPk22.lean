/- Contract of the catalog's element. Contract of the catalog's Scan. Printed by gen_catM.py. Plain: sellers, invoices, shares; what the check of a list of sellers computes. Plain: the parts of a total, what is left, and to whom it goes. -/
import Derived.Test.YtfopmaeaclbknaaDoorPk19
import Derived.Test.YtfopmaeaclbknaaDoorPk21
import Derived.Deep.LoopGhost
import Derived.Test.YtfopmaeaclbknaaDoorPk12
namespace Go.Proofs.YtfopmaeaclbknaaDoor
open Go.ChangeShapes Go.WideShapes Go.ChangeAt Go.RowKit
set_option linter.unusedVariables false
set_option linter.unusedSimpArgs false
open Cat (arr arr_set)
theorem Blk.box {w : World} {b : Nat} {T : TypeId} {p : Nat → Int} (h : Blk w b T (arr p)) : Cat.Box w b p := ⟨T, h⟩
theorem Lex.Scan.put_far {ts te tb : TypeId} {w : World} {g x : Nat} {L : List Lex.Tok} {e : Int} {cs : Array Value} (h : Lex.Scan ts te w g L e) (hb : Blk w x tb cs) (h1 : tb ≠ ts) (h2 : tb ≠ te) (k : Nat) (v : Value) : Lex.Scan ts te (w.setCell ⟨x, k, none⟩ v) g L e :=
  h.other ((Only.refl x w).put k v) hb h1 h2
/-- six stores into a block -/
abbrev put6 (w : World) (x : Nat) (q : Nat → Int) : World := (((((w.setCell ⟨x, 0, none⟩ (.int .i64 (q 0))).setCell ⟨x, 1, none⟩ (.int .i64 (q 1))).setCell ⟨x, 2, none⟩ (.int .i64 (q 2))).setCell ⟨x, 3, none⟩ (.int .i64 (q 3))).setCell ⟨x, 4, none⟩ (.int .i64 (q 4))).setCell ⟨x, 5, none⟩ (.int .i64 (q 5))
theorem Lex.Scan.six {ts te tb : TypeId} {w : World} {g x : Nat} {L : List Lex.Tok} {e : Int} {cs : Array Value} (h : Lex.Scan ts te w g L e) (hb : Blk w x tb cs) (h1 : tb ≠ ts) (h2 : tb ≠ te) (q : Nat → Int) : Lex.Scan ts te (put6 w x q) g L e :=
  (((((h.put_far hb h1 h2 0 _).put_far (hb.put 0 _) h1 h2 1 _).put_far ((hb.put 0 _).put 1 _) h1 h2 2 _).put_far (((hb.put 0 _).put 1 _).put 2 _) h1 h2 3 _).put_far ((((hb.put 0 _).put 1 _).put 2 _).put 3 _) h1 h2 4 _).put_far (((((hb.put 0 _).put 1 _).put 2 _).put 3 _).put 4 _) h1 h2 5 _
theorem Only.six {w wx : World} {g x : Nat} (h : Only g w wx) (hx : w.heap.size ≤ x) (q : Nat → Int) : Only g w (put6 wx x q) :=
  (((((h.put_new (p := ⟨x, 0, none⟩) hx _).put_new (p := ⟨x, 1, none⟩) hx _).put_new (p := ⟨x, 2, none⟩) hx _).put_new (p := ⟨x, 3, none⟩) hx _).put_new (p := ⟨x, 4, none⟩) hx _).put_new (p := ⟨x, 5, none⟩) hx _
theorem Blk.put6_ {w : World} {b x : Nat} {T : TypeId} {cs : Array Value} (h : Blk w b T cs) (hne : b ≠ x) (q : Nat → Int) : Blk (put6 w x q) b T cs :=
  (((((h.far hne _).far hne _).far hne _).far hne _).far hne _).far hne _
theorem Blk.put6s {w : World} {x : Nat} {T : TypeId} {p : Nat → Int} (h : Blk w x T (arr p)) (q : Nat → Int) : Blk (put6 w x q) x T (arr q) :=
  (((((h.put 0 _).put 1 _).put 2 _).put 3 _).put 4 _).put 5 _
theorem Blk.upd {w : World} {b : Nat} {T : TypeId} {p : Nat → Int} (h : Blk w b T (arr p)) (k : Nat) (hk : k < 6) (x : Int) : Blk (w.setCell ⟨b, k, none⟩ (.int .i64 x)) b T (arr (Cat.upd p k x)) := by
  have := h.put k (.int .i64 x)
  rw [arr_set p k hk] at this
  exact this
namespace Cat
open Lex
theorem Box.only {w w1 : World} {b g : Nat} {p : Nat → Int} (h : Box w b p) (o : Only g w w1) (hne : b ≠ g) : Box w1 b p := by
  obtain ⟨T, k⟩ := h.blk
  exact ⟨T, (o.block b h.lt hne).trans k⟩
theorem only_cell {g : Nat} {w w1 : World} (o : Only g w w1) {a : Addr} (hlt : a.block < w.heap.size) (hne : a.block ≠ g) : w1.cell? a = w.cell? a := World.cell?_of_block (o.block a.block hlt hne)
theorem ProdRow.only {w w' : World} {b o g : Nat} {l : List Prod} (h : ProdRow w b o l) (hb : b < w.heap.size) (hB : Only g w w') (hne : b ≠ g) : ProdRow w' b o l := fun j u hu => by
  rw [only_cell hB (a := ⟨b, o + j, none⟩) hb hne]
  exact h j u hu
theorem nextL_len (L : List Tok) (e : Int) : (nextL L e).length ≤ L.length := by unfold nextL; split <;> simp
theorem nameL_len (L : List Tok) (e : Int) : (nameL L e).length ≤ L.length := by
  unfold nameL
  split
  · exact nextL_len L e
  · exact Nat.le_refl _
theorem expL_len (L : List Tok) (e : Int) (m : ByteArray) : (expL L e m).length ≤ L.length := by
  unfold expL
  split
  · exact nextL_len L e
  · exact Nat.le_refl _
theorem amtL_len (L : List Tok) (e k : Int) : (amtL L e k).length ≤ L.length := by
  unfold amtL
  split
  · exact nextL_len L e
  · exact Nat.le_refl _
theorem elemF_len (l : List Prod) (s : St) : (elemF l s).L.length ≤ s.L.length := by
  unfold elemF
  split
  · exact nameL_len _ _
  · unfold elemR
    exact Nat.le_trans (amtL_len _ _ _) (Nat.le_trans (expL_len _ _ _) (nameL_len _ _))
theorem small_len {n : Nat} (h : n ≤ 5000) : n ≤ maxLen := by unfold maxLen; omega
theorem Box.upd {w : World} {b : Nat} {p : Nat → Int} (h : Box w b p) (k : Nat) (hk : k < 6) (x : Int) : Box (w.setCell ⟨b, k, none⟩ (.int .i64 x)) b (upd p k x) := h.set k hk x
/-- the scanner's block, the two blocks of the call's own -/
structure EMid (ts te tb : TypeId) (w wx : World) (g : Nat) (L : List Tok) (e : Int) (b : Nat → Int) : Prop where
  scan : Scan ts te wx g L e
  box : Blk wx w.heap.size tb (arr b)
  res : Blk wx (w.heap.size + 1) tb (arr zero6)
  only : Only g w wx
section
variable {ts te tb : TypeId} {w wx wy : World} {g : Nat} {L L' : List Tok} {e e' : Int} {b : Nat → Int}
theorem emid_new (h : Scan ts te w g L e) (b : Nat → Int) (tb : TypeId) : EMid ts te tb w ((w.alloc (.cells (arr b) tb)).alloc (.cells (arr zero6) tb)) g L e b := by
  refine ⟨(h.below (below_new w _)).below (below_new _ _), (Blk.new w tb _).alloc _, ?_, ((Only.refl g w).alloc _).alloc _⟩
  have := Blk.new (w.alloc (.cells (arr b) tb)) tb (arr zero6)
  simpa only [World.size_alloc] using this
theorem EMid.step (h : EMid ts te tb w wx g L e b) (hg : g < w.heap.size) (s : Scan ts te wy g L' e') (o : Only g wx wy) : EMid ts te tb w wy g L' e' b :=
  ⟨s, h.box.only o (by omega), h.res.only o (by omega), h.only.trans o⟩
theorem EMid.below (h : EMid ts te tb w wx g L e b) (o : Below wx.heap.size wx wy) : EMid ts te tb w wy g L e b :=
  ⟨h.scan.below o, h.box.below o h.box.lt, h.res.below o h.res.lt, h.only.then_below o⟩
theorem EMid.upd (h : EMid ts te tb w wx g L e b) (h1 : tb ≠ ts) (h2 : tb ≠ te) (k : Nat) (hk : k < 6) (x : Int) : EMid ts te tb w (wx.setCell ⟨w.heap.size, k, none⟩ (.int .i64 x)) g L e (upd b k x) :=
  ⟨h.scan.put_far h.box h1 h2 k _, h.box.upd k hk x, h.res.far (by show w.heap.size + 1 ≠ w.heap.size; omega) _, h.only.put_new (p := ⟨w.heap.size, k, none⟩) (Nat.le_refl _) _⟩
theorem EMid.done (h : EMid ts te tb w wx g L e b) (h1 : tb ≠ ts) (h2 : tb ≠ te) (q : Nat → Int) : Scan ts te (put6 wx (w.heap.size + 1) q) g L e ∧ Only g w (put6 wx (w.heap.size + 1) q) :=
  ⟨h.scan.six h.res h1 h2 q, h.only.six (by omega) q⟩
end
/- from here on printed by gen_catL.py -/
end Cat
end Go.Proofs.YtfopmaeaclbknaaDoor
namespace Go.Proofs.YtfopmaeaclbknaaDoor
open Go.ChangeShapes Go.WideShapes Go.ChangeAt Go.RowKit
set_option linter.unusedVariables false
set_option linter.unusedSimpArgs false
theorem Lex.Scan.only_apart {ts te tb : TypeId} {w wy : World} {g x : Nat} {L : List Lex.Tok} {e : Int} (h : Lex.Scan ts te w g L e) (o : Only x w wy) {cs : Array Value} (hb : Blk w x tb cs) (h1 : tb ≠ ts) (h2 : tb ≠ te) : Lex.Scan ts te wy g L e := h.other o hb h1 h2
namespace Cat
open Lex
abbrev put6z (w : World) (x : Nat) : World := (((((w.setCell ⟨x, 0, none⟩ (.int .i64 0)).setCell ⟨x, 1, none⟩ (.int .i64 0)).setCell ⟨x, 2, none⟩ (.int .i64 0)).setCell ⟨x, 3, none⟩ (.int .i64 0)).setCell ⟨x, 4, none⟩ (.int .i64 0)).setCell ⟨x, 5, none⟩ (.int .i64 0)
theorem res_end0 {w : World} {b : Nat} {p : Nat → Int} (h : Box w b p) : Box (put6z w b) b zero6 := res_end h zero6
/-- the scanner, the result's block, the bundle's block -/
structure SMid2 (ts te tb : TypeId) (w wx : World) (g x : Nat) (s : St) : Prop where
  scan : Scan ts te wx g s.L s.e
  res : Blk wx w.heap.size tb (arr zero6)
  box : Blk wx x tb (arr s.b)
  new : w.heap.size < x
  only : Only g w wx
section
variable {ts te tb : TypeId} {w wx wy : World} {g x : Nat} {s s' : St} {L : List Tok} {e : Int}
theorem SMid2.step (h : SMid2 ts te tb w wx g x s) (hg : g < w.heap.size) (k : Scan ts te wy g s'.L s'.e) (o : Only g wx wy) (hb : s'.b = s.b) : SMid2 ts te tb w wy g x s' := by
  have := h.new
  exact ⟨k, h.res.only o (by omega), by rw [hb]; exact h.box.only o (by omega), h.new, h.only.trans o⟩
theorem SMid2.put (h : SMid2 ts te tb w wx g x s) (h1 : tb ≠ ts) (h2 : tb ≠ te) (q : Nat → Int) : SMid2 ts te tb w (put6 wx x q) g x ⟨s.L, s.e, q⟩ := by
  have := h.new
  exact ⟨h.scan.six h.box h1 h2 q, h.res.put6_ (by omega) q, h.box.put6s q, h.new, h.only.six (by omega) q⟩
theorem SMid2.done (h : SMid2 ts te tb w wx g x s) (h1 : tb ≠ ts) (h2 : tb ≠ te) (q : Nat → Int) : Scan ts te (put6 wx w.heap.size q) g s.L s.e ∧ Only g w (put6 wx w.heap.size q) :=
  ⟨h.scan.six h.res h1 h2 q, h.only.six (Nat.le_refl _) q⟩
theorem SMid2.done0 (h : SMid2 ts te tb w wx g x s) (h1 : tb ≠ ts) (h2 : tb ≠ te) : Scan ts te (put6z wx w.heap.size) g s.L s.e ∧ Only g w (put6z wx w.heap.size) := h.done h1 h2 zero6
/-- the scanner and the result's block -/
structure SMid1 (ts te tb : TypeId) (w wx : World) (g : Nat) (L : List Tok) (e : Int) : Prop where
  scan : Scan ts te wx g L e
  res : Blk wx w.heap.size tb (arr zero6)
  only : Only g w wx
theorem smid1_new (h : Scan ts te w g L e) (tb : TypeId) : SMid1 ts te tb w (w.alloc (.cells (arr zero6) tb)) g L e :=
  ⟨h.below (below_new w _), Blk.new w tb _, (Only.refl g w).alloc _⟩
theorem SMid1.step {L' : List Tok} {e' : Int} (h : SMid1 ts te tb w wx g L e) (hg : g < w.heap.size) (k : Scan ts te wy g L' e') (o : Only g wx wy) : SMid1 ts te tb w wy g L' e' :=
  ⟨k, h.res.only o (by omega), h.only.trans o⟩
theorem SMid1.below (h : SMid1 ts te tb w wx g L e) (o : Below wx.heap.size wx wy) : SMid1 ts te tb w wy g L e :=
  ⟨h.scan.below o, h.res.below o h.res.lt, h.only.then_below o⟩
theorem SMid1.done (h : SMid1 ts te tb w wx g L e) (h1 : tb ≠ ts) (h2 : tb ≠ te) (q : Nat → Int) : Scan ts te (put6 wx w.heap.size q) g L e ∧ Only g w (put6 wx w.heap.size q) :=
  ⟨h.scan.six h.res h1 h2 q, h.only.six (Nat.le_refl _) q⟩
theorem SMid1.done0 (h : SMid1 ts te tb w wx g L e) (h1 : tb ≠ ts) (h2 : tb ≠ te) : Scan ts te (put6z wx w.heap.size) g L e ∧ Only g w (put6z wx w.heap.size) := h.done h1 h2 zero6
theorem SMid1.two (h : SMid1 ts te tb w wx g L e) : SMid2 ts te tb w (wx.alloc (.cells (arr zero6) tb)) g wx.heap.size ⟨L, e, zero6⟩ :=
  ⟨h.scan.below (below_new _ _), h.res.alloc _, Blk.new wx tb _, h.res.lt, h.only.alloc _⟩
end
theorem acc_next {L : List Tok} {e : Int} {m : ByteArray} (h : accB L e m) : (nextL L e).length < L.length := by
  by_cases he : e = 0
  · subst he
    cases L with
    | nil => exact absurd h (accB_nil m)
    | cons t L => simp [nextL]
  · exact absurd h (err_acc he m)
end Cat
end Go.Proofs.YtfopmaeaclbknaaDoor
namespace Go.Proofs.YtfopmaeaclbknaaDoor.Pr
open Go.ChangeShapes Go.WideShapes Go.ChangeAt Go.RowKit Gn Cat Lex
/-- a seller: its name, the slice of its products, and the numbers that the slice reads as -/
structure Sel where
  name : ByteArray
  v : Value
  ps : List Int
abbrev Sel.cells (x : Sel) : List Value := [.string x.name, x.v]
/-- an invoice -/
structure Inv where
  bidder : Int
  want : Nat → Int
  reserve : Int
  net : Int
  due : Int
abbrev Inv.cells (x : Inv) : List Value := [.int .i64 x.bidder, .int .i64 (x.want 0), .int .i64 (x.want 1), .int .i64 (x.want 2), .int .i64 (x.want 3), .int .i64 (x.want 4), .int .i64 (x.want 5), .int .i64 x.reserve, .int .i64 x.net, .int .i64 x.due]
/-- what a seller receives -/
structure Shr where
  sel : Int
  reserve : Int
  net : Int
abbrev Shr.cells (x : Shr) : List Value := [.int .i64 x.sel, .int .i64 x.reserve, .int .i64 x.net]
theorem sel_len (x : Sel) : x.cells.length = 2 := rfl
theorem inv_len (x : Inv) : x.cells.length = 10 := rfl
theorem shr_len (x : Shr) : x.cells.length = 3 := rfl
abbrev SelS (w : World) (v : Value) (l : List Sel) : Prop := Sl w 2 v l.length (l.flatMap Sel.cells)
abbrev InvS (w : World) (v : Value) (l : List Inv) : Prop := Sl w 10 v l.length (l.flatMap Inv.cells)
abbrev ShrS (w : World) (v : Value) (l : List Shr) : Prop := Sl w 3 v l.length (l.flatMap Shr.cells)
/-- the sellers' own parts read -/
def SelOk (w : World) (l : List Sel) : Prop := ∀ x ∈ l, x.name.size ≤ maxLen ∧ Sl w 1 x.v x.ps.length (x.ps.map fun z => Value.int .i64 z)
theorem SelOk.keep {w w' : World} {l : List Sel} (h : SelOk w l) (b : Below w.heap.size w w') : SelOk w' l := fun x hx => ⟨(h x hx).1, (h x hx).2.keep b⟩
/-- the cells of a row of sellers -/
theorem sel_at {w : World} {b o : Nat} {l : List Sel} (h : Row w b o (l.flatMap Sel.cells)) (k : Nat) (hk : k < l.length) : w.cell? ⟨b, o + k * 2, none⟩ = some (.string l[k].name) ∧ w.cell? ⟨b, o + k * 2 + 1, none⟩ = some l[k].v :=
  ⟨h.elem0 sel_len k hk (by omega) _ rfl, h.elem sel_len k hk 1 (by omega) _ rfl⟩
theorem shr_at {w : World} {b o : Nat} {l : List Shr} (h : Row w b o (l.flatMap Shr.cells)) (k : Nat) (hk : k < l.length) : w.cell? ⟨b, o + k * 3, none⟩ = some (.int .i64 l[k].sel) ∧ w.cell? ⟨b, o + k * 3 + 1, none⟩ = some (.int .i64 l[k].reserve) ∧ w.cell? ⟨b, o + k * 3 + 2, none⟩ = some (.int .i64 l[k].net) :=
  ⟨h.elem0 shr_len k hk (by omega) _ rfl, h.elem shr_len k hk 1 (by omega) _ rfl, h.elem shr_len k hk 2 (by omega) _ rfl⟩
theorem inv_at {w : World} {b o : Nat} {l : List Inv} (h : Row w b o (l.flatMap Inv.cells)) (k : Nat) (hk : k < l.length) :
    w.cell? ⟨b, o + k * 10, none⟩ = some (.int .i64 l[k].bidder) ∧ w.cell? ⟨b, o + k * 10 + 1, none⟩ = some (.int .i64 (l[k].want 0)) ∧ w.cell? ⟨b, o + k * 10 + 2, none⟩ = some (.int .i64 (l[k].want 1)) ∧ w.cell? ⟨b, o + k * 10 + 3, none⟩ = some (.int .i64 (l[k].want 2)) ∧ w.cell? ⟨b, o + k * 10 + 4, none⟩ = some (.int .i64 (l[k].want 3)) ∧ w.cell? ⟨b, o + k * 10 + 5, none⟩ = some (.int .i64 (l[k].want 4)) ∧ w.cell? ⟨b, o + k * 10 + 6, none⟩ = some (.int .i64 (l[k].want 5)) ∧ w.cell? ⟨b, o + k * 10 + 7, none⟩ = some (.int .i64 l[k].reserve) ∧ w.cell? ⟨b, o + k * 10 + 8, none⟩ = some (.int .i64 l[k].net) ∧ w.cell? ⟨b, o + k * 10 + 9, none⟩ = some (.int .i64 l[k].due) :=
  ⟨h.elem0 inv_len k hk (by omega) _ rfl, h.elem inv_len k hk 1 (by omega) _ rfl, h.elem inv_len k hk 2 (by omega) _ rfl, h.elem inv_len k hk 3 (by omega) _ rfl, h.elem inv_len k hk 4 (by omega) _ rfl, h.elem inv_len k hk 5 (by omega) _ rfl, h.elem inv_len k hk 6 (by omega) _ rfl, h.elem inv_len k hk 7 (by omega) _ rfl, h.elem inv_len k hk 8 (by omega) _ rfl, h.elem inv_len k hk 9 (by omega) _ rfl⟩

/-- who owns a product -/
abbrev Own := Nat → Option Nat
def Own.put (o : Own) (k i : Nat) : Own := fun j => if j = k then some i else o j
def takeP (n i : Nat) : List Int → Own → Except Int Own
  | [], o => .ok o
  | k :: r, o => if k < 0 ∨ (n : Int) ≤ k then .error 6 else if (o k.toNat).isSome then .error 7 else takeP n i r (o.put k.toNat i)
def hasName (l : List Sel) (s : ByteArray) : Bool := l.any fun x => eqB x.name s
def ownGo (n : Nat) (l : List Sel) : List Sel → Nat → Own → Except Int Own
  | [], _, o => .ok o
  | x :: r, i, o => if nameOk x.name then (if hasName (l.take i) x.name then .error 7 else match takeP n i x.ps o with | .error e => .error e | .ok o' => ownGo n l r (i + 1) o') else .error 5
def fullO (n : Nat) (o : Own) : Bool := (List.range n).all fun k => (o k).isSome
def ownF (n : Nat) : Except Int Own → Except Int Own
  | .error e => .error e
  | .ok o => if fullO n o then .ok o else .error 6
def ownR (n : Nat) (l : List Sel) : Except Int Own := ownF n (ownGo n l l 0 fun _ => none)
/-- what check computes -/
def selR (ps : List Prod) (l : List Sel) : Except Int Own := if checkE ps = 0 then (if l.length = 0 then .error 1 else if 6 < l.length then .error 3 else ownR ps.length l) else .error (checkE ps)
def errOf : Except Int Own → Int
  | .error e => e
  | .ok _ => 0
theorem ownGo_drop {n : Nat} {l : List Sel} {k : Nat} (hk : k < l.length) (o : Own) : ownGo n l (l.drop k) k o = if nameOk l[k].name then (if hasName (l.take k) l[k].name then .error 7 else match takeP n k l[k].ps o with | .error e => .error e | .ok o' => ownGo n l (l.drop (k + 1)) (k + 1) o') else .error 5 := by
  rw [List.drop_eq_getElem_cons hk, ownGo]
theorem ownGo_end {n : Nat} {l : List Sel} (o : Own) : ownGo n l (l.drop l.length) l.length o = .ok o := by rw [List.drop_length, ownGo]
theorem takeP_drop {n i : Nat} {ps : List Int} {j : Nat} (hj : j < ps.length) (o : Own) : takeP n i (ps.drop j) o = if ps[j] < 0 ∨ (n : Int) ≤ ps[j] then .error 6 else if (o ps[j].toNat).isSome then .error 7 else takeP n i (ps.drop (j + 1)) (o.put ps[j].toNat i) := by
  rw [List.drop_eq_getElem_cons hj, takeP]
theorem takeP_end {n i : Nat} {ps : List Int} (o : Own) : takeP n i (ps.drop ps.length) o = .ok o := by rw [List.drop_length, takeP]
theorem hasName_take {l : List Sel} {k : Nat} (h : k < l.length) (s : ByteArray) : hasName (l.take (k + 1)) s = (hasName (l.take k) s || eqB l[k].name s) := by
  unfold hasName
  rw [List.take_succ_eq_append_getElem h, List.any_append]
  simp
theorem hasName_zero {l : List Sel} (s : ByteArray) : hasName (l.take 0) s = false := by simp [hasName]
/-- the rest of an own-list after a name has been found good -/
def restR (n : Nat) (l : List Sel) (k : Nat) : Except Int Own → Except Int Own
  | .error e => .error e
  | .ok o => ownGo n l (l.drop (k + 1)) (k + 1) o
theorem ownGo_rest {n : Nat} {l : List Sel} {k : Nat} (hk : k < l.length) (o : Own) (h1 : nameOk l[k].name = true) (h2 : hasName (l.take k) l[k].name = false) : ownGo n l (l.drop k) k o = restR n l k (takeP n k l[k].ps o) := by
  rw [ownGo_drop hk, if_pos h1, h2, if_neg (by simp)]
  cases takeP n k l[k].ps o <;> rfl
theorem fullO_iff {n : Nat} {o : Own} : fullO n o = true ↔ ∀ k, k < n → (o k).isSome = true := by simp [fullO]
end Go.Proofs.YtfopmaeaclbknaaDoor.Pr
namespace Go.Proofs.YtfopmaeaclbknaaDoor
set_option linter.unusedVariables false
namespace So
/-- a part, rounded down -/
def prt (T : Nat) (W : List Nat) (S i : Nat) : Nat := T * at_ W i / S
def pl (T : Nat) (W : List Nat) (S k : Nat) : List Nat := (List.range k).map (prt T W S)
def psum (T : Nat) (W : List Nat) (S k : Nat) : Nat := (pl T W S k).sum
def rsum (T : Nat) (W : List Nat) (S k : Nat) : Nat := ((List.range k).map (rst T W S)).sum
section
variable {T : Nat} {W : List Nat} {S k : Nat}
theorem pl_len : (pl T W S k).length = k := by simp [pl]
theorem pl_succ : pl T W S (k + 1) = pl T W S k ++ [prt T W S k] := by simp [pl, List.range_succ]
theorem psum_succ : psum T W S (k + 1) = psum T W S k + prt T W S k := by
  unfold psum
  rw [pl_succ, List.sum_append, List.sum_cons, List.sum_nil, Nat.add_zero]
theorem rsum_succ : rsum T W S (k + 1) = rsum T W S k + rst T W S k := by
  unfold rsum
  rw [List.range_succ, List.map_append, List.sum_append, List.map_cons, List.map_nil, List.sum_cons, List.sum_nil, Nat.add_zero]
theorem parts_sum (hk : k ≤ W.length) : S * psum T W S k + rsum T W S k = T * sumN W k := by
  induction k with
  | zero => simp [psum, pl, rsum, sumN]
  | succ k ih =>
    have h1 := ih (by omega)
    have h2 : S * prt T W S k + rst T W S k = T * at_ W k := Nat.div_add_mod _ _
    rw [psum_succ, rsum_succ, sumN_succ (by omega), Nat.mul_add, Nat.mul_add]
    omega
theorem rsum_le (hS : 0 < S) : rsum T W S k + k ≤ k * S := by
  induction k with
  | zero => simp [rsum]
  | succ k ih =>
    have h : rst T W S k < S := Nat.mod_lt _ hS
    rw [rsum_succ, Nat.succ_mul]
    omega
theorem psum_le (hk : k ≤ W.length) (hS : 0 < S) (hW : sumN W k ≤ S) : psum T W S k ≤ T := by
  have h1 := parts_sum (T := T) (S := S) hk
  have h2 : T * sumN W k ≤ T * S := Nat.mul_le_mul_left _ hW
  have h3 : S * psum T W S k ≤ S * T := by rw [Nat.mul_comm S T]; omega
  exact Nat.le_of_mul_le_mul_left h3 hS
theorem left_lt (hS : 0 < S) (hSS : S = sumN W W.length) : T - psum T W S W.length < W.length := by
  have h1 := parts_sum (T := T) (S := S) (Nat.le_refl W.length)
  rw [← hSS] at h1
  have h2 := rsum_le (T := T) (W := W) (k := W.length) hS
  have h3 := psum_le (T := T) (Nat.le_refl W.length) hS (Nat.le_of_eq hSS.symm)
  have hn : 0 < W.length := by
    rcases Nat.eq_zero_or_pos W.length with h | h
    · rw [List.eq_nil_of_length_eq_zero h] at hSS
      simp [sumN] at hSS
      omega
    · exact h
  have h4 : (T - psum T W S W.length) * S < W.length * S := by
    rw [Nat.sub_mul, Nat.mul_comm (psum T W S W.length)]
    omega
  exact Nat.lt_of_mul_lt_mul_right h4
theorem sumN_mono (k : Nat) : sumN W k ≤ sumN W W.length := by
  unfold sumN
  rw [List.take_length]
  have := List.take_append_drop k W
  conv => rhs; rw [← this]
  rw [List.sum_append]
  omega
end
/-- the parts when the first m of the order have got one more -/
def fin (T : Nat) (W : List Nat) (S : Nat) (order : List Nat) (m : Nat) : List Nat := (List.range W.length).map fun i => prt T W S i + if i ∈ order.take m then 1 else 0
section
variable {T : Nat} {W : List Nat} {S m : Nat} {order : List Nat}
theorem fin_len : (fin T W S order m).length = W.length := by simp [fin]
theorem fin_zero : fin T W S order 0 = pl T W S W.length := by simp [fin, pl]
theorem fin_at {i : Nat} (h : i < W.length) : (fin T W S order m)[i]? = some (prt T W S i + if i ∈ order.take m then 1 else 0) := by simp [fin, h]
theorem fin_step (hnd : order.Nodup) (hm : m < order.length) (ho : order[m] < W.length) : (fin T W S order m)[order[m]]? = some (prt T W S order[m]) ∧ (fin T W S order m).set order[m] (prt T W S order[m] + 1) = fin T W S order (m + 1) := by
  have h1 : order[m] ∉ order.take m := by
    intro h
    obtain ⟨j, hj, e⟩ := List.mem_iff_getElem.1 h
    rw [List.getElem_take] at e
    have hj' : j < m := by simp at hj; omega
    have := (List.nodup_iff_pairwise_ne.1 hnd)
    exact (List.pairwise_iff_getElem.1 this) j m (by omega) hm hj' e
  have h2 : order.take (m + 1) = order.take m ++ [order[m]] := List.take_succ_eq_append_getElem hm
  refine ⟨by rw [fin_at ho, if_neg h1, Nat.add_zero], ?_⟩
  refine List.ext_getElem (by simp [fin]) fun i hi1 hi2 => ?_
  have hi : i < W.length := by simpa [fin] using hi2
  by_cases e : order[m] = i
  · have hmem : i ∈ order.take (m + 1) := by
      rw [h2, ← e]
      exact List.mem_append_right _ (List.mem_singleton.2 rfl)
    rw [List.getElem_set, if_pos e]
    simp only [fin, List.getElem_map, List.getElem_range]
    rw [if_pos hmem, e]
  · rw [List.getElem_set_ne e]
    simp only [fin, List.getElem_map, List.getElem_range]
    have h3 : i ∈ order.take (m + 1) ↔ i ∈ order.take m := by
      rw [h2, List.mem_append, List.mem_singleton]
      exact ⟨fun h => h.elim id (fun h => absurd h.symm e), .inl⟩
    by_cases h4 : i ∈ order.take m
    · rw [if_pos h4, if_pos (h3.2 h4)]
    · rw [if_neg h4, if_neg (fun h => h4 (h3.1 h))]
end
/-- the order in which what is left goes round -/
def IsOrder (T : Nat) (W : List Nat) (S : Nat) (order : List Nat) : Prop := order.Perm (List.range W.length) ∧ order.Pairwise (LT (rst T W S))
theorem IsOrder.nodup {T : Nat} {W : List Nat} {S : Nat} {order : List Nat} (h : IsOrder T W S order) : order.Nodup := h.1.nodup_iff.2 List.nodup_range
theorem IsOrder.len {T : Nat} {W : List Nat} {S : Nat} {order : List Nat} (h : IsOrder T W S order) : order.length = W.length := by rw [h.1.length_eq, List.length_range]
theorem IsOrder.lt {T : Nat} {W : List Nat} {S : Nat} {order : List Nat} (h : IsOrder T W S order) {x : Nat} (hx : x ∈ order) : x < W.length := List.mem_range.1 (h.1.mem_iff.1 hx)
/-- the parts of a total -/
def shares (T : Nat) (W : List Nat) (S : Nat) (order : List Nat) : List Nat := fin T W S order (T - psum T W S W.length)
theorem range_rise (n : Nat) : (List.range n).Pairwise (· < ·) := List.pairwise_lt_range
end So
end Go.Proofs.YtfopmaeaclbknaaDoor
