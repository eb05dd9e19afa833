/- Contract of the catalog's element. -/
import Derived.Test.YtaikmgnpfbnjjaaGreatDoorPu09
namespace Go.Proofs.YtaikmgnpfbnjjaaGreatDoor
open Go.ChangeShapes Go.WideShapes Go.ChangeAt Go.RowKit
set_option linter.unusedVariables false
set_option linter.unusedSimpArgs false
open Cat (arr arr_set)
theorem Blk.box {w : World} {b : Nat} {T : TypeId} {p : Nat → Int} (h : Blk w b T (arr p)) : Cat.Box w b p := ⟨T, h⟩
theorem Lex.Scan.put_far {ts te tb : TypeId} {w : World} {g x : Nat} {L : List Lex.Tok} {e : Int} {cs : Array Value} (h : Lex.Scan ts te w g L e) (hb : Blk w x tb cs) (h1 : tb ≠ ts) (h2 : tb ≠ te) (k : Nat) (v : Value) : Lex.Scan ts te (w.setCell ⟨x, k, none⟩ v) g L e :=
  h.other ((Only.refl x w).put k v) hb h1 h2
/-- six stores into a block -/
abbrev put6 (w : World) (x : Nat) (q : Nat → Int) : World := (((((w.setCell ⟨x, 0, none⟩ (.int .i64 (q 0))).setCell ⟨x, 1, none⟩ (.int .i64 (q 1))).setCell ⟨x, 2, none⟩ (.int .i64 (q 2))).setCell ⟨x, 3, none⟩ (.int .i64 (q 3))).setCell ⟨x, 4, none⟩ (.int .i64 (q 4))).setCell ⟨x, 5, none⟩ (.int .i64 (q 5))
theorem Lex.Scan.six {ts te tb : TypeId} {w : World} {g x : Nat} {L : List Lex.Tok} {e : Int} {cs : Array Value} (h : Lex.Scan ts te w g L e) (hb : Blk w x tb cs) (h1 : tb ≠ ts) (h2 : tb ≠ te) (q : Nat → Int) : Lex.Scan ts te (put6 w x q) g L e :=
  (((((h.put_far hb h1 h2 0 _).put_far (hb.put 0 _) h1 h2 1 _).put_far ((hb.put 0 _).put 1 _) h1 h2 2 _).put_far (((hb.put 0 _).put 1 _).put 2 _) h1 h2 3 _).put_far ((((hb.put 0 _).put 1 _).put 2 _).put 3 _) h1 h2 4 _).put_far (((((hb.put 0 _).put 1 _).put 2 _).put 3 _).put 4 _) h1 h2 5 _
theorem Only.six {w wx : World} {g x : Nat} (h : Only g w wx) (hx : w.heap.size ≤ x) (q : Nat → Int) : Only g w (put6 wx x q) :=
  (((((h.put_new (p := ⟨x, 0, none⟩) hx _).put_new (p := ⟨x, 1, none⟩) hx _).put_new (p := ⟨x, 2, none⟩) hx _).put_new (p := ⟨x, 3, none⟩) hx _).put_new (p := ⟨x, 4, none⟩) hx _).put_new (p := ⟨x, 5, none⟩) hx _
theorem Blk.put6_ {w : World} {b x : Nat} {T : TypeId} {cs : Array Value} (h : Blk w b T cs) (hne : b ≠ x) (q : Nat → Int) : Blk (put6 w x q) b T cs :=
  (((((h.far hne _).far hne _).far hne _).far hne _).far hne _).far hne _
theorem Blk.put6s {w : World} {x : Nat} {T : TypeId} {p : Nat → Int} (h : Blk w x T (arr p)) (q : Nat → Int) : Blk (put6 w x q) x T (arr q) :=
  (((((h.put 0 _).put 1 _).put 2 _).put 3 _).put 4 _).put 5 _
theorem Blk.upd {w : World} {b : Nat} {T : TypeId} {p : Nat → Int} (h : Blk w b T (arr p)) (k : Nat) (hk : k < 6) (x : Int) : Blk (w.setCell ⟨b, k, none⟩ (.int .i64 x)) b T (arr (Cat.upd p k x)) := by
  have := h.put k (.int .i64 x)
  rw [arr_set p k hk] at this
  exact this
namespace Cat
open Lex
theorem Box.only {w w1 : World} {b g : Nat} {p : Nat → Int} (h : Box w b p) (o : Only g w w1) (hne : b ≠ g) : Box w1 b p := by
  obtain ⟨T, k⟩ := h.blk
  exact ⟨T, (o.block b h.lt hne).trans k⟩
theorem only_cell {g : Nat} {w w1 : World} (o : Only g w w1) {a : Addr} (hlt : a.block < w.heap.size) (hne : a.block ≠ g) : w1.cell? a = w.cell? a := World.cell?_of_block (o.block a.block hlt hne)
theorem ProdRow.only {w w' : World} {b o g : Nat} {l : List Prod} (h : ProdRow w b o l) (hb : b < w.heap.size) (hB : Only g w w') (hne : b ≠ g) : ProdRow w' b o l := fun j u hu => by
  rw [only_cell hB (a := ⟨b, o + j, none⟩) hb hne]
  exact h j u hu
theorem nextL_len (L : List Tok) (e : Int) : (nextL L e).length ≤ L.length := by unfold nextL; split <;> simp
theorem nameL_len (L : List Tok) (e : Int) : (nameL L e).length ≤ L.length := by
  unfold nameL
  split
  · exact nextL_len L e
  · exact Nat.le_refl _
theorem expL_len (L : List Tok) (e : Int) (m : ByteArray) : (expL L e m).length ≤ L.length := by
  unfold expL
  split
  · exact nextL_len L e
  · exact Nat.le_refl _
theorem amtL_len (L : List Tok) (e k : Int) : (amtL L e k).length ≤ L.length := by
  unfold amtL
  split
  · exact nextL_len L e
  · exact Nat.le_refl _
theorem elemF_len (l : List Prod) (s : St) : (elemF l s).L.length ≤ s.L.length := by
  unfold elemF
  split
  · exact nameL_len _ _
  · unfold elemR
    exact Nat.le_trans (amtL_len _ _ _) (Nat.le_trans (expL_len _ _ _) (nameL_len _ _))
theorem small_len {n : Nat} (h : n ≤ 5000) : n ≤ maxLen := by unfold maxLen; omega
theorem Box.upd {w : World} {b : Nat} {p : Nat → Int} (h : Box w b p) (k : Nat) (hk : k < 6) (x : Int) : Box (w.setCell ⟨b, k, none⟩ (.int .i64 x)) b (upd p k x) := h.set k hk x
/-- the scanner's block, the two blocks of the call's own -/
structure EMid (ts te tb : TypeId) (w wx : World) (g : Nat) (L : List Tok) (e : Int) (b : Nat → Int) : Prop where
  scan : Scan ts te wx g L e
  box : Blk wx w.heap.size tb (arr b)
  res : Blk wx (w.heap.size + 1) tb (arr zero6)
  only : Only g w wx
section
variable {ts te tb : TypeId} {w wx wy : World} {g : Nat} {L L' : List Tok} {e e' : Int} {b : Nat → Int}
theorem emid_new (h : Scan ts te w g L e) (b : Nat → Int) (tb : TypeId) : EMid ts te tb w ((w.alloc (.cells (arr b) tb)).alloc (.cells (arr zero6) tb)) g L e b := by
  refine ⟨(h.below (below_new w _)).below (below_new _ _), (Blk.new w tb _).alloc _, ?_, ((Only.refl g w).alloc _).alloc _⟩
  have := Blk.new (w.alloc (.cells (arr b) tb)) tb (arr zero6)
  simpa only [World.size_alloc] using this
theorem EMid.step (h : EMid ts te tb w wx g L e b) (hg : g < w.heap.size) (s : Scan ts te wy g L' e') (o : Only g wx wy) : EMid ts te tb w wy g L' e' b :=
  ⟨s, h.box.only o (by omega), h.res.only o (by omega), h.only.trans o⟩
theorem EMid.below (h : EMid ts te tb w wx g L e b) (o : Below wx.heap.size wx wy) : EMid ts te tb w wy g L e b :=
  ⟨h.scan.below o, h.box.below o h.box.lt, h.res.below o h.res.lt, h.only.then_below o⟩
theorem EMid.upd (h : EMid ts te tb w wx g L e b) (h1 : tb ≠ ts) (h2 : tb ≠ te) (k : Nat) (hk : k < 6) (x : Int) : EMid ts te tb w (wx.setCell ⟨w.heap.size, k, none⟩ (.int .i64 x)) g L e (upd b k x) :=
  ⟨h.scan.put_far h.box h1 h2 k _, h.box.upd k hk x, h.res.far (by show w.heap.size + 1 ≠ w.heap.size; omega) _, h.only.put_new (p := ⟨w.heap.size, k, none⟩) (Nat.le_refl _) _⟩
theorem EMid.done (h : EMid ts te tb w wx g L e b) (h1 : tb ≠ ts) (h2 : tb ≠ te) (q : Nat → Int) : Scan ts te (put6 wx (w.heap.size + 1) q) g L e ∧ Only g w (put6 wx (w.heap.size + 1) q) :=
  ⟨h.scan.six h.res h1 h2 q, h.only.six (by omega) q⟩
end
abbrev ElemPost (s : St) (g : Nat) (w : World) : Ending → World → Prop := fun r w' => r = .returned (.agg (arr s.b)) ∧ Scan 161 157 w' g s.L s.e ∧ Only g w w'
set_option maxRecDepth 100000 in
set_option maxHeartbeats 1000000 in
theorem element_err (l : List Prod) (b1 o1 c : Nat) (L : List Tok) (e : Int) (b : Nat → Int) (g : Nat) (w : World) (hs : Scan 161 157 w g L e) (hm : L.length ≤ 5000) (he : nameE L e ≠ 0) :
    Calls Tryz.prog 138 #[.slice (some ⟨b1, o1, none⟩) l.length c, .pointer (some ⟨g, 0, none⟩), .agg (arr b)] w (ElemPost ⟨nameL L e, nameE L e, b⟩ g w) := by
  have hg := hs.lt
  have E0 := Lib.hid (emid_new hs b 23)
  have CN := Lib.hid (fun w' (h : Scan 161 157 w' g L e) => name_any L e g w' h (small_len hm))
  have CE := Lib.hid err_any
  have q1 : (nameE L e != 0) = true := by simpa using he
  have hz : Hid (zero6 0 = 0 ∧ zero6 1 = 0 ∧ zero6 2 = 0 ∧ zero6 3 = 0 ∧ zero6 4 = 0 ∧ zero6 5 = 0) := ⟨rfl, rfl, rfl, rfl, rfl, rfl⟩
  clear hs he
  go_enter Tryz.func138, Tryz.ntmps138
  go_wp2_with fail
  refine (CN.out _ E0.out.scan).mono ?_
  rintro r w1 ⟨rfl, s1, o1⟩
  have E1 := Lib.hid (E0.out.step hg s1 o1)
  clear s1 o1
  go_wp2_with fail
  refine (CE.out _ _ _ _ E1.out.scan).mono ?_
  rintro r w2 ⟨rfl, rfl⟩
  obtain ⟨Q0, Q1, Q2, Q3, Q4, Q5⟩ := E1.out.box.box.cells
  obtain ⟨Z0, Z1, Z2, Z3, Z4, Z5⟩ := E1.out.res.box.cells
  have zf := E1.out.res.box.free
  go_wp2_with fail
  have RE := res_end E1.out.res.box b
  obtain ⟨X0, X1, X2, X3, X4, X5⟩ := RE.cells
  refine bodyPost_ret (v := .agg (arr b)) (by simp [results, Tryz.results138, go_sem, arr, X0, X1, X2, X3, X4, X5]) rfl ⟨rfl, E1.out.done (by decide) (by decide) b⟩
/- from here on printed by gen_catL.py -/
set_option maxRecDepth 100000 in
set_option maxHeartbeats 2000000 in
theorem element_none (l : List Prod) (b1 o1 c : Nat) (L : List Tok) (e : Int) (b : Nat → Int) (g : Nat) (w : World) (h6 : l.length ≤ 6) (h0 : 0 < l.length) (h1 : ProdRow w b1 o1 l) (hne : b1 ≠ g) (hs : Scan 161 157 w g L e) (hm : L.length ≤ 5000) (he : nameE L e = 0) (hf : findP l (nameT L e) = none) :
    Calls Tryz.prog 138 #[.slice (some ⟨b1, o1, none⟩) l.length c, .pointer (some ⟨g, 0, none⟩), .agg (arr b)] w (ElemPost (elemR (nameL L e) 6 (findK l (nameT L e)) b) g w) := by
  have hg := hs.lt
  have hb1 : b1 < w.heap.size := block_lt_of_cell (h1.at_ 0 h0).1
  have HR := Lib.hid fun w' => h1.only (w' := w') (g := g) hb1
  have E0 := Lib.hid (emid_new hs b 23)
  have hL1 := nameL_len L e
  have hL2 := expL_len (nameL L e) 6 ⟨#[58]⟩
  have CN := Lib.hid (fun w' (h : Scan 161 157 w' g L e) => name_any L e g w' h (small_len hm))
  have CE := Lib.hid err_any
  have CF := Lib.hid (fun w' (h : Only g w w') => find_some l b1 o1 c (nameT L e) w' (by omega) (HR.out w' h hne) h0)
  have CX := Lib.hid (fun w' (h : Scan 161 157 w' g (nameL L e) 6) => expect_any (nameL L e) 6 g ⟨#[58]⟩ w' h (small_len (by omega)))
  have CA := Lib.hid (fun w' (h : Scan 161 157 w' g (expL (nameL L e) 6 ⟨#[58]⟩) (expE (nameL L e) 6 ⟨#[58]⟩)) => amount_any _ _ 4 g w' h (small_len (by omega)))
  have CL := Lib.hid fail_any
  have q1 : (nameE L e != 0) = false := by simpa using he
  have hfi : Hid (findI l (nameT L e) = ((findK l (nameT L e) : Nat) : Int)) := rfl
  have hok : Hid (findOk l (nameT L e) = false) := by show (findP _ _).isSome = false; rw [hf]; rfl
  have hk6 : findK l (nameT L e) < 6 := by unfold findK; rw [hf]; decide
  clear hf
  have HD : Hid (elemR (nameL L e) 6 (findK l (nameT L e)) b = ⟨amtL (expL (nameL L e) 6 ⟨#[58]⟩) (expE (nameL L e) 6 ⟨#[58]⟩) 4, amt5 (expL (nameL L e) 6 ⟨#[58]⟩) (expE (nameL L e) 6 ⟨#[58]⟩), upd b (findK l (nameT L e)) (amtV (expL (nameL L e) 6 ⟨#[58]⟩) (expE (nameL L e) 6 ⟨#[58]⟩) 4)⟩) := rfl
  rw [HD.out]
  have H5 : Hid (amt5 (expL (nameL L e) 6 ⟨#[58]⟩) (expE (nameL L e) 6 ⟨#[58]⟩) = if amtV (expL (nameL L e) 6 ⟨#[58]⟩) (expE (nameL L e) 6 ⟨#[58]⟩) 4 = 0 then failE (amtE (expL (nameL L e) 6 ⟨#[58]⟩) (expE (nameL L e) 6 ⟨#[58]⟩) 4) 4 else amtE (expL (nameL L e) 6 ⟨#[58]⟩) (expE (nameL L e) 6 ⟨#[58]⟩) 4) := rfl
  clear HD hL1 hL2
  generalize expE (nameL L e) 6 ⟨#[58]⟩ = ex at *
  generalize expL (nameL L e) 6 ⟨#[58]⟩ = Lx at *
  generalize amtV Lx ex 4 = V at *
  generalize amtE Lx ex 4 = ea at *
  generalize amtL Lx ex 4 = La at *
  have he' := Lib.hid he
  clear hs he h1
  go_enter Tryz.func138, Tryz.ntmps138
  go_wp2_with fail
  refine (CN.out _ E0.out.scan).mono ?_
  rintro r w1 ⟨rfl, s1, o1⟩
  have E1 := Lib.hid (E0.out.step hg s1 o1)
  clear s1 o1
  go_wp2_with fail
  refine (CE.out _ _ _ _ E1.out.scan).mono ?_
  rintro r w2 ⟨rfl, rfl⟩
  go_wp2_with fail
  refine (CF.out _ E1.out.only).mono ?_
  rintro r w2 ⟨rfl, d2⟩
  have E2 := Lib.hid (E1.out.below d2)
  clear d2
  rw [hfi.out, hok.out]
  rw [he'.out] at E2
  go_wp2_with fail
  refine (CL.out _ _ _ _ _ E2.out.scan).mono ?_
  rintro r w3 ⟨rfl, s3, o3⟩
  have E3 := Lib.hid (E2.out.step hg s3 o3)
  clear s3 o3
  go_wp2_with fail
  refine (CX.out _ E3.out.scan).mono ?_
  rintro r w4 ⟨rfl, s4, o4⟩
  have E4 := Lib.hid (E3.out.step hg s4 o4)
  clear s4 o4
  go_wp2_with fail
  refine (CA.out _ E4.out.scan).mono ?_
  rintro r w5 ⟨rfl, s5, o5⟩
  have E5 := Lib.hid (E4.out.step hg s5 o5)
  clear s5 o5

  by_cases hv : V = 0
  · subst hv
    rw [if_pos rfl] at H5
    go_wp2_with fail
    refine (CL.out _ _ _ _ _ E5.out.scan).mono ?_
    rintro r w6 ⟨rfl, s6, o6⟩
    have E6 := Lib.hid (E5.out.step hg s6 o6)
    clear s6 o6
    obtain ⟨Q0, Q1, Q2, Q3, Q4, Q5⟩ := E6.out.box.box.cells
    have qf := E6.out.box.box.free
    have qk := E6.out.box.box.cell (findK l (nameT L e)) hk6
    have EU := Lib.hid (E6.out.upd (by decide) (by decide) (findK l (nameT L e)) hk6 0)
    obtain ⟨U0, U1, U2, U3, U4, U5⟩ := EU.out.box.box.cells
    obtain ⟨Z0, Z1, Z2, Z3, Z4, Z5⟩ := EU.out.res.box.cells
    have zf := EU.out.res.box.free
    go_wp2_with fail
    have RE := res_end EU.out.res.box (upd b (findK l (nameT L e)) 0)
    obtain ⟨X0, X1, X2, X3, X4, X5⟩ := RE.cells

    refine bodyPost_ret (v := .agg (arr (upd b (findK l (nameT L e)) 0))) (by simp [results, Tryz.results138, go_sem, arr, X0, X1, X2, X3, X4, X5]) rfl ⟨rfl, ?_⟩
    rw [H5.out]
    exact EU.out.done (by decide) (by decide) _
  · have q5 : (V == 0) = false := by simpa using hv
    rw [if_neg hv] at H5
    clear hv
    obtain ⟨Q0, Q1, Q2, Q3, Q4, Q5⟩ := E5.out.box.box.cells
    have qf := E5.out.box.box.free
    have qk := E5.out.box.box.cell (findK l (nameT L e)) hk6
    have EU := Lib.hid (E5.out.upd (by decide) (by decide) (findK l (nameT L e)) hk6 V)
    obtain ⟨U0, U1, U2, U3, U4, U5⟩ := EU.out.box.box.cells
    obtain ⟨Z0, Z1, Z2, Z3, Z4, Z5⟩ := EU.out.res.box.cells
    have zf := EU.out.res.box.free
    go_wp2_with fail
    have RE := res_end EU.out.res.box (upd b (findK l (nameT L e)) V)
    obtain ⟨X0, X1, X2, X3, X4, X5⟩ := RE.cells

    refine bodyPost_ret (v := .agg (arr (upd b (findK l (nameT L e)) V))) (by simp [results, Tryz.results138, go_sem, arr, X0, X1, X2, X3, X4, X5]) rfl ⟨rfl, ?_⟩
    rw [H5.out]
    exact EU.out.done (by decide) (by decide) _
set_option maxRecDepth 100000 in
set_option maxHeartbeats 2000000 in
theorem element_twice (l : List Prod) (b1 o1 c : Nat) (L : List Tok) (e : Int) (b : Nat → Int) (g : Nat) (w : World) (h6 : l.length ≤ 6) (h0 : 0 < l.length) (h1 : ProdRow w b1 o1 l) (hne : b1 ≠ g) (hs : Scan 161 157 w g L e) (hm : L.length ≤ 5000) (he : nameE L e = 0) (hf : findP l (nameT L e) ≠ none) (hb : b (findK l (nameT L e)) ≠ 0) :
    Calls Tryz.prog 138 #[.slice (some ⟨b1, o1, none⟩) l.length c, .pointer (some ⟨g, 0, none⟩), .agg (arr b)] w (ElemPost (elemR (nameL L e) 7 (findK l (nameT L e)) b) g w) := by
  have hg := hs.lt
  have hb1 : b1 < w.heap.size := block_lt_of_cell (h1.at_ 0 h0).1
  have HR := Lib.hid fun w' => h1.only (w' := w') (g := g) hb1
  have E0 := Lib.hid (emid_new hs b 23)
  have hL1 := nameL_len L e
  have hL2 := expL_len (nameL L e) 7 ⟨#[58]⟩
  have CN := Lib.hid (fun w' (h : Scan 161 157 w' g L e) => name_any L e g w' h (small_len hm))
  have CE := Lib.hid err_any
  have CF := Lib.hid (fun w' (h : Only g w w') => find_some l b1 o1 c (nameT L e) w' (by omega) (HR.out w' h hne) h0)
  have CX := Lib.hid (fun w' (h : Scan 161 157 w' g (nameL L e) 7) => expect_any (nameL L e) 7 g ⟨#[58]⟩ w' h (small_len (by omega)))
  have CA := Lib.hid (fun w' (h : Scan 161 157 w' g (expL (nameL L e) 7 ⟨#[58]⟩) (expE (nameL L e) 7 ⟨#[58]⟩)) => amount_any _ _ 4 g w' h (small_len (by omega)))
  have CL := Lib.hid fail_any
  have q1 : (nameE L e != 0) = false := by simpa using he
  have hfi : Hid (findI l (nameT L e) = ((findK l (nameT L e) : Nat) : Int)) := rfl
  have hok : Hid (findOk l (nameT L e) = true) := by show (findP _ _).isSome = true; exact Option.isSome_iff_ne_none.2 hf
  have hk6 : findK l (nameT L e) < 6 := by
    obtain ⟨k, hk⟩ := Option.ne_none_iff_exists'.1 hf
    unfold findK
    rw [hk]
    have := findFrom_lt hk
    simpa using (show k < 6 by omega)
  have hk6i : ((findK l (nameT L e) : Nat) : Int) < 6 := by omega
  clear hf
  have qb : (b (findK l (nameT L e)) != 0) = true := by simpa using hb
  clear hb
  have HD : Hid (elemR (nameL L e) 7 (findK l (nameT L e)) b = ⟨amtL (expL (nameL L e) 7 ⟨#[58]⟩) (expE (nameL L e) 7 ⟨#[58]⟩) 4, amt5 (expL (nameL L e) 7 ⟨#[58]⟩) (expE (nameL L e) 7 ⟨#[58]⟩), upd b (findK l (nameT L e)) (amtV (expL (nameL L e) 7 ⟨#[58]⟩) (expE (nameL L e) 7 ⟨#[58]⟩) 4)⟩) := rfl
  rw [HD.out]
  have H5 : Hid (amt5 (expL (nameL L e) 7 ⟨#[58]⟩) (expE (nameL L e) 7 ⟨#[58]⟩) = if amtV (expL (nameL L e) 7 ⟨#[58]⟩) (expE (nameL L e) 7 ⟨#[58]⟩) 4 = 0 then failE (amtE (expL (nameL L e) 7 ⟨#[58]⟩) (expE (nameL L e) 7 ⟨#[58]⟩) 4) 4 else amtE (expL (nameL L e) 7 ⟨#[58]⟩) (expE (nameL L e) 7 ⟨#[58]⟩) 4) := rfl
  clear HD hL1 hL2
  generalize expE (nameL L e) 7 ⟨#[58]⟩ = ex at *
  generalize expL (nameL L e) 7 ⟨#[58]⟩ = Lx at *
  generalize amtV Lx ex 4 = V at *
  generalize amtE Lx ex 4 = ea at *
  generalize amtL Lx ex 4 = La at *
  have he' := Lib.hid he
  clear hs he h1
  go_enter Tryz.func138, Tryz.ntmps138
  go_wp2_with fail
  refine (CN.out _ E0.out.scan).mono ?_
  rintro r w1 ⟨rfl, s1, o1⟩
  have E1 := Lib.hid (E0.out.step hg s1 o1)
  clear s1 o1
  go_wp2_with fail
  refine (CE.out _ _ _ _ E1.out.scan).mono ?_
  rintro r w2 ⟨rfl, rfl⟩
  go_wp2_with fail
  refine (CF.out _ E1.out.only).mono ?_
  rintro r w2 ⟨rfl, d2⟩
  have E2 := Lib.hid (E1.out.below d2)
  clear d2
  rw [hfi.out, hok.out]
  rw [he'.out] at E2
  have bk := E2.out.box.box.cell (findK l (nameT L e)) hk6
  have bl := E2.out.box.lt
  go_wp2_with fail
  refine (CL.out _ _ _ _ _ E2.out.scan).mono ?_
  rintro r w3 ⟨rfl, s3, o3⟩
  have E3 := Lib.hid (E2.out.step hg s3 o3)
  clear s3 o3
  go_wp2_with fail
  refine (CX.out _ E3.out.scan).mono ?_
  rintro r w4 ⟨rfl, s4, o4⟩
  have E4 := Lib.hid (E3.out.step hg s4 o4)
  clear s4 o4
  go_wp2_with fail
  refine (CA.out _ E4.out.scan).mono ?_
  rintro r w5 ⟨rfl, s5, o5⟩
  have E5 := Lib.hid (E4.out.step hg s5 o5)
  clear s5 o5

  by_cases hv : V = 0
  · subst hv
    rw [if_pos rfl] at H5
    go_wp2_with fail
    refine (CL.out _ _ _ _ _ E5.out.scan).mono ?_
    rintro r w6 ⟨rfl, s6, o6⟩
    have E6 := Lib.hid (E5.out.step hg s6 o6)
    clear s6 o6
    obtain ⟨Q0, Q1, Q2, Q3, Q4, Q5⟩ := E6.out.box.box.cells
    have qf := E6.out.box.box.free
    have qk := E6.out.box.box.cell (findK l (nameT L e)) hk6
    have EU := Lib.hid (E6.out.upd (by decide) (by decide) (findK l (nameT L e)) hk6 0)
    obtain ⟨U0, U1, U2, U3, U4, U5⟩ := EU.out.box.box.cells
    obtain ⟨Z0, Z1, Z2, Z3, Z4, Z5⟩ := EU.out.res.box.cells
    have zf := EU.out.res.box.free
    go_wp2_with fail
    have RE := res_end EU.out.res.box (upd b (findK l (nameT L e)) 0)
    obtain ⟨X0, X1, X2, X3, X4, X5⟩ := RE.cells

    refine bodyPost_ret (v := .agg (arr (upd b (findK l (nameT L e)) 0))) (by simp [results, Tryz.results138, go_sem, arr, X0, X1, X2, X3, X4, X5]) rfl ⟨rfl, ?_⟩
    rw [H5.out]
    exact EU.out.done (by decide) (by decide) _
  · have q5 : (V == 0) = false := by simpa using hv
    rw [if_neg hv] at H5
    clear hv
    obtain ⟨Q0, Q1, Q2, Q3, Q4, Q5⟩ := E5.out.box.box.cells
    have qf := E5.out.box.box.free
    have qk := E5.out.box.box.cell (findK l (nameT L e)) hk6
    have EU := Lib.hid (E5.out.upd (by decide) (by decide) (findK l (nameT L e)) hk6 V)
    obtain ⟨U0, U1, U2, U3, U4, U5⟩ := EU.out.box.box.cells
    obtain ⟨Z0, Z1, Z2, Z3, Z4, Z5⟩ := EU.out.res.box.cells
    have zf := EU.out.res.box.free
    go_wp2_with fail
    have RE := res_end EU.out.res.box (upd b (findK l (nameT L e)) V)
    obtain ⟨X0, X1, X2, X3, X4, X5⟩ := RE.cells

    refine bodyPost_ret (v := .agg (arr (upd b (findK l (nameT L e)) V))) (by simp [results, Tryz.results138, go_sem, arr, X0, X1, X2, X3, X4, X5]) rfl ⟨rfl, ?_⟩
    rw [H5.out]
    exact EU.out.done (by decide) (by decide) _
set_option maxRecDepth 100000 in
set_option maxHeartbeats 2000000 in
theorem element_once (l : List Prod) (b1 o1 c : Nat) (L : List Tok) (e : Int) (b : Nat → Int) (g : Nat) (w : World) (h6 : l.length ≤ 6) (h0 : 0 < l.length) (h1 : ProdRow w b1 o1 l) (hne : b1 ≠ g) (hs : Scan 161 157 w g L e) (hm : L.length ≤ 5000) (he : nameE L e = 0) (hf : findP l (nameT L e) ≠ none) (hb : b (findK l (nameT L e)) = 0) :
    Calls Tryz.prog 138 #[.slice (some ⟨b1, o1, none⟩) l.length c, .pointer (some ⟨g, 0, none⟩), .agg (arr b)] w (ElemPost (elemR (nameL L e) 0 (findK l (nameT L e)) b) g w) := by
  have hg := hs.lt
  have hb1 : b1 < w.heap.size := block_lt_of_cell (h1.at_ 0 h0).1
  have HR := Lib.hid fun w' => h1.only (w' := w') (g := g) hb1
  have E0 := Lib.hid (emid_new hs b 23)
  have hL1 := nameL_len L e
  have hL2 := expL_len (nameL L e) 0 ⟨#[58]⟩
  have CN := Lib.hid (fun w' (h : Scan 161 157 w' g L e) => name_any L e g w' h (small_len hm))
  have CE := Lib.hid err_any
  have CF := Lib.hid (fun w' (h : Only g w w') => find_some l b1 o1 c (nameT L e) w' (by omega) (HR.out w' h hne) h0)
  have CX := Lib.hid (fun w' (h : Scan 161 157 w' g (nameL L e) 0) => expect_any (nameL L e) 0 g ⟨#[58]⟩ w' h (small_len (by omega)))
  have CA := Lib.hid (fun w' (h : Scan 161 157 w' g (expL (nameL L e) 0 ⟨#[58]⟩) (expE (nameL L e) 0 ⟨#[58]⟩)) => amount_any _ _ 4 g w' h (small_len (by omega)))
  have CL := Lib.hid fail_any
  have q1 : (nameE L e != 0) = false := by simpa using he
  have hfi : Hid (findI l (nameT L e) = ((findK l (nameT L e) : Nat) : Int)) := rfl
  have hok : Hid (findOk l (nameT L e) = true) := by show (findP _ _).isSome = true; exact Option.isSome_iff_ne_none.2 hf
  have hk6 : findK l (nameT L e) < 6 := by
    obtain ⟨k, hk⟩ := Option.ne_none_iff_exists'.1 hf
    unfold findK
    rw [hk]
    have := findFrom_lt hk
    simpa using (show k < 6 by omega)
  have hk6i : ((findK l (nameT L e) : Nat) : Int) < 6 := by omega
  clear hf
  have qb : (b (findK l (nameT L e)) != 0) = false := by simpa using hb
  clear hb
  have HD : Hid (elemR (nameL L e) 0 (findK l (nameT L e)) b = ⟨amtL (expL (nameL L e) 0 ⟨#[58]⟩) (expE (nameL L e) 0 ⟨#[58]⟩) 4, amt5 (expL (nameL L e) 0 ⟨#[58]⟩) (expE (nameL L e) 0 ⟨#[58]⟩), upd b (findK l (nameT L e)) (amtV (expL (nameL L e) 0 ⟨#[58]⟩) (expE (nameL L e) 0 ⟨#[58]⟩) 4)⟩) := rfl
  rw [HD.out]
  have H5 : Hid (amt5 (expL (nameL L e) 0 ⟨#[58]⟩) (expE (nameL L e) 0 ⟨#[58]⟩) = if amtV (expL (nameL L e) 0 ⟨#[58]⟩) (expE (nameL L e) 0 ⟨#[58]⟩) 4 = 0 then failE (amtE (expL (nameL L e) 0 ⟨#[58]⟩) (expE (nameL L e) 0 ⟨#[58]⟩) 4) 4 else amtE (expL (nameL L e) 0 ⟨#[58]⟩) (expE (nameL L e) 0 ⟨#[58]⟩) 4) := rfl
  clear HD hL1 hL2
  generalize expE (nameL L e) 0 ⟨#[58]⟩ = ex at *
  generalize expL (nameL L e) 0 ⟨#[58]⟩ = Lx at *
  generalize amtV Lx ex 4 = V at *
  generalize amtE Lx ex 4 = ea at *
  generalize amtL Lx ex 4 = La at *
  have he' := Lib.hid he
  clear hs he h1
  go_enter Tryz.func138, Tryz.ntmps138
  go_wp2_with fail
  refine (CN.out _ E0.out.scan).mono ?_
  rintro r w1 ⟨rfl, s1, o1⟩
  have E1 := Lib.hid (E0.out.step hg s1 o1)
  clear s1 o1
  go_wp2_with fail
  refine (CE.out _ _ _ _ E1.out.scan).mono ?_
  rintro r w2 ⟨rfl, rfl⟩
  go_wp2_with fail
  refine (CF.out _ E1.out.only).mono ?_
  rintro r w2 ⟨rfl, d2⟩
  have E2 := Lib.hid (E1.out.below d2)
  clear d2
  rw [hfi.out, hok.out]
  rw [he'.out] at E2
  have bk := E2.out.box.box.cell (findK l (nameT L e)) hk6
  have bl := E2.out.box.lt
  have E3 := E2
  go_wp2_with fail
  refine (CX.out _ E3.out.scan).mono ?_
  rintro r w4 ⟨rfl, s4, o4⟩
  have E4 := Lib.hid (E3.out.step hg s4 o4)
  clear s4 o4
  go_wp2_with fail
  refine (CA.out _ E4.out.scan).mono ?_
  rintro r w5 ⟨rfl, s5, o5⟩
  have E5 := Lib.hid (E4.out.step hg s5 o5)
  clear s5 o5

  by_cases hv : V = 0
  · subst hv
    rw [if_pos rfl] at H5
    go_wp2_with fail
    refine (CL.out _ _ _ _ _ E5.out.scan).mono ?_
    rintro r w6 ⟨rfl, s6, o6⟩
    have E6 := Lib.hid (E5.out.step hg s6 o6)
    clear s6 o6
    obtain ⟨Q0, Q1, Q2, Q3, Q4, Q5⟩ := E6.out.box.box.cells
    have qf := E6.out.box.box.free
    have qk := E6.out.box.box.cell (findK l (nameT L e)) hk6
    have EU := Lib.hid (E6.out.upd (by decide) (by decide) (findK l (nameT L e)) hk6 0)
    obtain ⟨U0, U1, U2, U3, U4, U5⟩ := EU.out.box.box.cells
    obtain ⟨Z0, Z1, Z2, Z3, Z4, Z5⟩ := EU.out.res.box.cells
    have zf := EU.out.res.box.free
    go_wp2_with fail
    have RE := res_end EU.out.res.box (upd b (findK l (nameT L e)) 0)
    obtain ⟨X0, X1, X2, X3, X4, X5⟩ := RE.cells

    refine bodyPost_ret (v := .agg (arr (upd b (findK l (nameT L e)) 0))) (by simp [results, Tryz.results138, go_sem, arr, X0, X1, X2, X3, X4, X5]) rfl ⟨rfl, ?_⟩
    rw [H5.out]
    exact EU.out.done (by decide) (by decide) _
  · have q5 : (V == 0) = false := by simpa using hv
    rw [if_neg hv] at H5
    clear hv
    obtain ⟨Q0, Q1, Q2, Q3, Q4, Q5⟩ := E5.out.box.box.cells
    have qf := E5.out.box.box.free
    have qk := E5.out.box.box.cell (findK l (nameT L e)) hk6
    have EU := Lib.hid (E5.out.upd (by decide) (by decide) (findK l (nameT L e)) hk6 V)
    obtain ⟨U0, U1, U2, U3, U4, U5⟩ := EU.out.box.box.cells
    obtain ⟨Z0, Z1, Z2, Z3, Z4, Z5⟩ := EU.out.res.box.cells
    have zf := EU.out.res.box.free
    go_wp2_with fail
    have RE := res_end EU.out.res.box (upd b (findK l (nameT L e)) V)
    obtain ⟨X0, X1, X2, X3, X4, X5⟩ := RE.cells

    refine bodyPost_ret (v := .agg (arr (upd b (findK l (nameT L e)) V))) (by simp [results, Tryz.results138, go_sem, arr, X0, X1, X2, X3, X4, X5]) rfl ⟨rfl, ?_⟩
    rw [H5.out]
    exact EU.out.done (by decide) (by decide) _
theorem element_any (l : List Prod) (b1 o1 c : Nat) (s : St) (g : Nat) (w : World) (h6 : l.length ≤ 6) (h0 : 0 < l.length) (h1 : ProdRow w b1 o1 l) (hne : b1 ≠ g) (hs : Scan 161 157 w g s.L s.e) (hm : s.L.length ≤ 5000) :
    Calls Tryz.prog 138 #[.slice (some ⟨b1, o1, none⟩) l.length c, .pointer (some ⟨g, 0, none⟩), .agg (arr s.b)] w (ElemPost (elemF l s) g w) := by
  by_cases he : nameE s.L s.e = 0
  · have hE : elemF l s = elemR (nameL s.L s.e) (elem2 l (nameT s.L s.e) s.b) (findK l (nameT s.L s.e)) s.b := by unfold elemF; rw [if_neg (by simp [he])]
    rw [hE]
    unfold elem2
    by_cases hf : findP l (nameT s.L s.e) = none
    · rw [if_pos hf]
      exact element_none l b1 o1 c s.L s.e s.b g w h6 h0 h1 hne hs hm he hf
    · rw [if_neg hf]
      by_cases hb : s.b (findK l (nameT s.L s.e)) = 0
      · rw [if_neg (by simp [hb])]
        exact element_once l b1 o1 c s.L s.e s.b g w h6 h0 h1 hne hs hm he hf hb
      · rw [if_pos hb]
        exact element_twice l b1 o1 c s.L s.e s.b g w h6 h0 h1 hne hs hm he hf hb
  · have hE : elemF l s = ⟨nameL s.L s.e, nameE s.L s.e, s.b⟩ := by unfold elemF; rw [if_pos he]
    rw [hE]
    exact element_err l b1 o1 c s.L s.e s.b g w hs hm he
end Cat
end Go.Proofs.YtaikmgnpfbnjjaaGreatDoor
