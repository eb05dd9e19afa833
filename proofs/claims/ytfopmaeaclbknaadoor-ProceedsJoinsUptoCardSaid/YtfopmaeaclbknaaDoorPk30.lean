/- Contract of proceeds.owners. Printed by gen_pr4.py. -/
import Derived.Test.YtfopmaeaclbknaaDoorPk28
import Derived.Test.YtfopmaeaclbknaaDoorPk29
namespace Go.Proofs.YtfopmaeaclbknaaDoor.Pr
open Go.ChangeShapes Go.WideShapes Go.ChangeAt Go.RowKit Go.Maps Go.WideMaps Gn Cat Lex
set_option linter.unusedVariables false
set_option linter.unusedSimpArgs false
abbrev kS (s : ByteArray) : Lit := .string s.data.toList
abbrev kI (q : Nat) : Lit := .int .i64 (q : Int)
theorem kS_ne {s x : ByteArray} (h : s ≠ x) : kS s ≠ kS x := fun e => h (by
  injection e with e
  obtain ⟨⟨a⟩⟩ := s
  obtain ⟨⟨b⟩⟩ := x
  simp at e
  rw [e])
theorem kI_ne {q m : Nat} (h : q ≠ m) : kI q ≠ kI m := fun e => h (by injection e with _ e; omega)
theorem kS_lit (s : ByteArray) : WideAt.IsKeyLit (kS s) := True.intro
theorem kI_lit (q : Nat) : WideAt.IsKeyLit (kI q) := True.intro
def NmD (D : DataW Unit) (l : List Sel) (k : Nat) : Prop := ∀ s : ByteArray, D.atKey (kS s) (.lit (.bool false)) = .lit (.bool (hasName (l.take k) s))
theorem NmD.put {D : DataW Unit} {l : List Sel} {k : Nat} (h : NmD D l k) (hm : IsMap D) (hk : k < l.length) : NmD (D.put (kS l[k].name) (.lit (.bool true))) l (k + 1) := fun s => by
  rw [hasName_take hk]
  by_cases e : s = l[k].name
  · rw [e, atKey_put_same hm (kS_lit _), show eqB l[k].name l[k].name = true from eqB_iff.2 rfl, Bool.or_true]
  · rw [atKey_put_other (kS_ne e), h s]
    have : eqB l[k].name s = false := by
      cases hq : eqB l[k].name s with
      | false => rfl
      | true => exact absurd (eqB_iff.1 hq).symm e
    rw [this, Bool.or_false]
def cntO (o : Own) (n : Nat) : Nat := (List.range n).countP fun q => (o q).isSome
theorem cntO_succ (o : Own) (n : Nat) : cntO o (n + 1) = cntO o n + if (o n).isSome then 1 else 0 := by
  unfold cntO
  rw [List.range_succ, List.countP_append]
  simp
theorem cntO_put {o : Own} {m i : Nat} (ho : o m = none) : ∀ n, cntO (o.put m i) n = cntO o n + if m < n then 1 else 0
  | 0 => by simp [cntO]
  | n + 1 => by
    rw [cntO_succ, cntO_succ, cntO_put ho n]
    by_cases e : n = m
    · subst e
      simp [Own.put, ho]
    · have : (o.put m i) n = o n := by simp [Own.put, e]
      rw [this]
      by_cases h : m < n
      · have h2 : m < n + 1 := by omega
        simp only [h, h2, if_true]
        omega
      · have h2 : ¬ m < n + 1 := by omega
        simp only [h, h2, if_false]
        omega
theorem cntO_le (o : Own) (n : Nat) : cntO o n ≤ n := by
  have := List.countP_le_length (p := fun q => (o q).isSome) (l := List.range n)
  simpa [cntO] using this
theorem cntO_full (o : Own) (n : Nat) : fullO n o = true ↔ ¬ cntO o n < n := by
  have h := List.countP_eq_length (p := fun q => (o q).isSome) (l := List.range n)
  have hl := cntO_le o n
  rw [fullO_iff]
  unfold cntO at hl ⊢
  constructor
  · intro hq
    have : (List.range n).countP (fun q => (o q).isSome) = n := by rw [h.2 (fun a ha => hq a (List.mem_range.1 ha)), List.length_range]
    omega
  · intro hq k hk
    exact h.1 (by rw [List.length_range]; omega) k (List.mem_range.2 hk)
structure OwD (D : DataW Unit) (o : Own) (n : Nat) : Prop where
  has : ∀ q : Nat, Maps.has D (kI q) = (o q).isSome
  at_ : ∀ q i : Nat, o q = some i → D.atKey (kI q) (.lit (.int .i64 0)) = .lit (.int .i64 (i : Int))
  size : Maps.size D = cntO o n
theorem OwD.empty (n : Nat) : OwD (.map []) (fun _ => none) n := ⟨fun _ => rfl, (fun _ _ h => by cases h), by simp [Maps.size, cntO]⟩
theorem OwD.put {D : DataW Unit} {o : Own} {n m i : Nat} (h : OwD D o n) (ht : Tidy D) (hm : m < n) (ho : o m = none) : OwD (D.put (kI m) (.lit (.int .i64 (i : Int)))) (o.put m i) n := by
  refine ⟨fun q => ?_, fun q j hq => ?_, ?_⟩
  · by_cases e : q = m
    · subst e
      rw [has_put_same ht.isMap (kI_lit _)]
      simp [Own.put]
    · rw [has_put_other (kI_ne e), h.has]
      simp [Own.put, e]
  · by_cases e : q = m
    · subst e
      simp [Own.put] at hq
      subst hq
      rw [atKey_put_same ht.isMap (kI_lit _)]
    · rw [atKey_put_other (kI_ne e)]
      exact h.at_ q j (by simpa [Own.put, e] using hq)
  · rw [size_put ht, h.has, ho, h.size, cntO_put ho n, if_pos hm]
    simp
theorem kept_below {k e : TypeId} {w w2 : World} {b n : Nat} {D : DataW Unit} (h : w.ownsMap Tryd.prog k (plainElem Tryd.prog e) b n D) (hb : Below w.heap.size w w2) : w2.ownsMap Tryd.prog k (plainElem Tryd.prog e) b n D :=
  h.kept (row := none) ⟨hb.os, hb.tape, hb.output, hb.size, fun k hk _ => hb.block k hk⟩ (by simp)
/-- block b is a map that tells who owns which product -/
def OwMap (w : World) (b n : Nat) (o : Own) : Prop := ∃ D : DataW Unit, w.ownsMap Tryd.prog 3 (plainElem Tryd.prog 3) b (Maps.size D) D ∧ OwD D o n
theorem OwMap.keep {w w2 : World} {b n : Nat} {o : Own} (h : OwMap w b n o) (hb : Below w.heap.size w w2) : OwMap w2 b n o := by
  obtain ⟨D, h1, h2⟩ := h
  exact ⟨D, kept_below h1 hb, h2⟩
theorem OwMap.grown {w w2 : World} {b n : Nat} {o : Own} {row : Option Nat} (h : OwMap w b n o) (hg : w.grownBy w2 row) (hne : some b ≠ row) : OwMap w2 b n o := by
  obtain ⟨D, h1, h2⟩ := h
  exact ⟨D, h1.kept hg hne, h2⟩
def NmMap (w : World) (b : Nat) (l : List Sel) (k : Nat) : Prop := ∃ D : DataW Unit, w.ownsMap Tryd.prog 9 (plainElem Tryd.prog 4) b k D ∧ NmD D l k
theorem NmMap.keep {w w2 : World} {b k : Nat} {l : List Sel} (h : NmMap w b l k) (hb : Below w.heap.size w w2) : NmMap w2 b l k := by
  obtain ⟨D, h1, h2⟩ := h
  exact ⟨D, kept_below h1 hb, h2⟩
theorem NmMap.grown {w w2 : World} {b k : Nat} {l : List Sel} {row : Option Nat} (h : NmMap w b l k) (hg : w.grownBy w2 row) (hne : some b ≠ row) : NmMap w2 b l k := by
  obtain ⟨D, h1, h2⟩ := h
  exact ⟨D, h1.kept hg hne, h2⟩
/-- the memory of owners at work -/
structure OwSt (w wr : World) (g b1 b2 n : Nat) (cs : Array Value) (l : List Sel) (k : Nat) (o : Own) : Prop where
  bx : Blk wr g 48 cs
  nm : NmMap wr b1 l k
  ow : OwMap wr b2 n o
  below : Below w.heap.size w wr
theorem OwSt.keep {w wr w2 : World} {g b1 b2 n : Nat} {cs : Array Value} {l : List Sel} {k : Nat} {o : Own} (h : OwSt w wr g b1 b2 n cs l k o) (b : Below wr.heap.size wr w2) : OwSt w w2 g b1 b2 n cs l k o :=
  ⟨h.bx.below' b, h.nm.keep b, h.ow.keep b, chain0 h.below b⟩
theorem keyS : Keyed Tryd.prog 9 := string_keyed Tryd.underlying9
theorem keyI : Keyed Tryd.prog 3 := int_keyed Tryd.underlying3
theorem zeroB (w : World) : (zeroValue 4).run Tryd.prog w = .ok (.bool false) w := by kernel_rfl
theorem zeroI (w : World) : (zeroValue 3).run Tryd.prog w = .ok (.int .i64 0) w := by kernel_rfl
theorem wf_nat {q : Nat} (h : q ≤ 1000) : (Lit.int .i64 (q : Int)).wf = true := WalkArith.wf_i64 (by omega)
theorem keyI_mk {q : Nat} (h : q ≤ 1000) : keyOf Tryd.prog 3 (.int .i64 (q : Int)) = some (kI q) := keyOf_int_mk Tryd.underlying3 (wf_nat h)
theorem NmMap.look {w : World} {b k : Nat} {l : List Sel} (h : NmMap w b l k) {s : ByteArray} (hs : s.size ≤ maxLen) : (Instr.lookup 164 (.map (some b)) (.string s) false).run Tryd.prog w = .ok (.bool (hasName (l.take k) s)) w := by
  obtain ⟨D, h1, h2⟩ := h
  exact Mp.look_bool h1 keyS Tryd.underlying164 Tryd.underlying4 (zeroB w) (keyOf_string_mk Tryd.underlying9 hs) (h2 s)
theorem OwMap.lookOk {w : World} {b n : Nat} {o : Own} (h : OwMap w b n o) {q : Nat} (hq : q ≤ 1000) : ∃ c : Int, (Instr.lookup 103 (.map (some b)) (.int .i64 (q : Int)) true).run Tryd.prog w = .ok (.tuple #[.int .i64 c, .bool (o q).isSome]) w := by
  obtain ⟨D, h1, h2⟩ := h
  exact Mp.look_ok_int h1 keyI Tryd.underlying103 Tryd.underlying3 (zeroI w) (keyI_mk hq) (h2.has q)
theorem OwMap.look {w : World} {b n : Nat} {o : Own} (h : OwMap w b n o) {q i : Nat} (hq : q ≤ 1000) (ho : o q = some i) : (Instr.lookup 103 (.map (some b)) (.int .i64 (q : Int)) false).run Tryd.prog w = .ok (.int .i64 (i : Int)) w := by
  obtain ⟨D, h1, h2⟩ := h
  exact Mp.look_int h1 keyI Tryd.underlying103 Tryd.underlying3 (zeroI w) (keyI_mk hq) (h2.at_ q i ho)
/-- what check hands back -/
def OwnPost (n : Nat) (R : Except Int Own) (w : World) (e : Ending) (w' : World) : Prop :=
  match R with
  | .error x => e = .returned (.tuple #[.map none, .int .i64 x]) ∧ Below w.heap.size w w'
  | .ok o => ∃ b, e = .returned (.tuple #[.map (some b), .int .i64 0]) ∧ OwMap w' b n o ∧ w.heap.size ≤ b ∧ Below w.heap.size w w'
theorem OwnPost.err {n : Nat} {w w' : World} {R : Except Int Own} {x : Int} (hR : R = .error x) (b : Below w.heap.size w w') : OwnPost n R w (.returned (.tuple #[.map none, .int .i64 x])) w' := by subst hR; exact ⟨rfl, b⟩
theorem OwnPost.ok {n b : Nat} {w w' : World} {R : Except Int Own} {o : Own} (hR : R = .ok o) (hm : OwMap w' b n o) (hb : w.heap.size ≤ b) (bl : Below w.heap.size w w') : OwnPost n R w (.returned (.tuple #[.map (some b), .int .i64 0])) w' := by subst hR; exact ⟨b, rfl, hm, hb, bl⟩
set_option maxHeartbeats 4000000 in
set_option maxRecDepth 100000 in
theorem owners_some (A1 : Option Addr) (n c1 : Nat) (v2 v3 v4 : Value) (l : List Sel) (A : Option Addr) (c : Nat) (w : World) (hn0 : 0 < n) (hn : n ≤ 6) (hl : l.length ≤ 6) (hv : SelOk w l) (hp : ∀ x ∈ l, x.ps.length ≤ 1000) (h : SelS w (.slice A l.length c) l) :
    Calls Tryd.prog 82 #[.agg #[.slice A1 n c1, v2, v3, v4], .slice A l.length c] w (OwnPost n (ownR n l) w) := by
  have hmm := @run_makeMap Tryd.prog
  obtain ⟨A', c', e', _, _, hr⟩ := sl_parts h
  injection e' with e1 e2 e3
  subst e1 e3
  have HR := Lib.hid hr
  have HV := Lib.hid (fun (k : Nat) (hk : k < l.length) => hv _ (List.getElem_mem hk))
  have HLEN : Hid (l.length ≤ 6) := hl
  have HPS := Lib.hid (fun (k : Nat) (hk : k < l.length) => hp _ (List.getElem_mem hk))
  have hn6 : (n : Int) ≤ 6 := by omega
  obtain ⟨R, hR⟩ : ∃ R, R = ownR n l := ⟨_, rfl⟩
  rw [← hR]
  have HR0 : Hid (ownF n (ownGo n l (l.drop 0) 0 (fun _ => none)) = R) := by show ownF n _ = R; rw [hR]; rfl
  clear h hr hl hR hv hp
  go_enter Tryd.func82, Tryd.ntmps82
  go_wp2_with fail
  have ST0 : Hid (OwSt w (((w.alloc (.cells #[.slice A1 n c1, v2, v3, v4] 48)).alloc (.map #[] 0)).alloc (.map #[] 0)) w.heap.size (w.heap.size + 1) (w.heap.size + 1 + 1) n #[.slice A1 n c1, v2, v3, v4] l 0 (fun _ => none)) := by
    have k1 := World.ownsMap_made (H := Unit) (w.alloc (.cells #[.slice A1 n c1, v2, v3, v4] 48)) Tryd.prog 9 (plainElem Tryd.prog 4)
    have k2 := World.ownsMap_made (H := Unit) ((w.alloc (.cells #[.slice A1 n c1, v2, v3, v4] 48)).alloc (.map #[] 0)) Tryd.prog 3 (plainElem Tryd.prog 3)
    simp only [World.size_alloc] at k1 k2
    refine ⟨((Blk.new w _ _).alloc _).alloc _, ⟨_, k1.alloc _, fun s => by rw [hasName_zero]; rfl⟩, ⟨.map [], k2, OwD.empty n⟩, ?_⟩
    exact (((below_new _ _).alloc (by simp) _).alloc (by simp; omega) _)
  generalize ((w.alloc (.cells #[.slice A1 n c1, v2, v3, v4] 48)).alloc (.map #[] 0)).alloc (.map #[] 0) = w2 at *
  have hb12 : Hid (w.heap.size ≠ w.heap.size + 1 ∧ w.heap.size ≠ w.heap.size + 1 + 1 ∧ w.heap.size + 1 ≠ w.heap.size + 1 + 1 ∧ w.heap.size ≤ w.heap.size + 1 ∧ w.heap.size ≤ w.heap.size + 1 + 1 ∧ w.heap.size ≤ w.heap.size) := by refine ⟨?_, ?_, ?_, ?_, ?_, ?_⟩ <;> omega
  generalize w.heap.size + 1 + 1 = b2 at *
  generalize w.heap.size + 1 = b1 at *
  obtain ⟨g, hg⟩ : ∃ g, g = w.heap.size := ⟨_, rfl⟩
  rw [← hg]
  have HG := Lib.hid hg
  have ST1 : Hid (OwSt w w2 g b1 b2 n #[.slice A1 n c1, v2, v3, v4] l 0 (fun _ => none)) := by rw [hg]; exact ST0.out
  have HNE : Hid (g ≠ b1 ∧ g ≠ b2 ∧ b1 ≠ b2 ∧ w.heap.size ≤ b1 ∧ w.heap.size ≤ b2) := by rw [hg]; exact ⟨hb12.out.1, hb12.out.2.1, hb12.out.2.2.1, hb12.out.2.2.2.1, hb12.out.2.2.2.2.1⟩
  clear ST0 hg hb12 hmm
  go_loopw [18] (fun iv wr => ∃ (k : Nat) (ow : Own), k ≤ l.length ∧ iv = .int .i64 (k : Int) ∧ Hid (ownF n (ownGo n l (l.drop k) k ow) = R) ∧ Hid (OwSt w wr g b1 b2 n #[.slice A1 n c1, v2, v3, v4] l k ow)) (fun iv _ => l.length - (intOf iv).toNat)
  case atStart => exact ⟨0, fun _ => none, Nat.zero_le _, rfl, HR0.out, ST1.out⟩
  case round =>
    clear ST1 HR0
    obtain ⟨k, ow, hk, rfl, HRI, HS⟩ := hrel
    have hk0 : (0 : Int) ≤ (k : Int) := by omega
    have hk5 : (k : Int) ≤ 6 := by have := HLEN.out; omega
    have hl6 : (l.length : Int) ≤ 6 := by have := HLEN.out; omega
    by_cases hkn : k < l.length
    · have hd1 : decide (k < l.length) = true := decide_eq_true hkn
      have hd2 : decide ((k : Int) < (l.length : Int)) = true := decide_eq_true (by omega)
      have hkn1 : (k : Int) < (l.length : Int) := by omega
      obtain ⟨b, o, e1, hb, hrow⟩ := HR.out (by omega)
      subst e1
      have hat := sel_at (hrow.below hb HS.out.below) k hkn
      have HSP := Lib.hid (ownGo_drop (n := n) hkn ow)
      have HSR := Lib.hid (fun h1 h2 => ownGo_rest (n := n) hkn ow h1 h2)
      have HNP := Lib.hid (fun D (hh : NmD D l k) hm => hh.put hm hkn)
      obtain ⟨hnm, hvs⟩ := HV.out k hkn
      have hpl := HPS.out k hkn
      have CN := Lib.hid (fun W => isName_any l[k].name W hnm)
      obtain ⟨x, hx⟩ : ∃ x, x = l[k] := ⟨_, rfl⟩
      rw [← hx] at hat HSP HSR hvs hpl CN HNP hnm
      obtain ⟨nm, vx, px⟩ := x
      dsimp only at hat HSP HSR hvs hpl CN HNP hnm
      obtain ⟨Ap, cp, hvx, _, _, hrp⟩ := sl_parts hvs
      subst hvx
      have HRP := Lib.hid hrp
      have HNM := Lib.hid hnm
      clear hx hnm hvs hrow hrp hb
      cases hq : nameOk nm with
      | false =>
        have HE : Hid (R = .error 5) := by have := HRI.out; rw [HSP.out, hq] at this; exact this.symm
        have HQ := Lib.hid hq
        clear HSP HSR HNP hq
        go_wp2_with fail
        refine (CN.out _).mono ?_
        rintro e w3 ⟨rfl, rfl⟩
        rw [HQ.out]
        go_wp2_with fail
        go_ret2
        exact OwnPost.err HE.out (HS.out.below.alloc HS.out.below.size _)
      | true =>
        have HQ := Lib.hid hq
        have HS1 := Lib.hid (HS.out.keep (below_new wr (.cells #[.string nm, .slice Ap px.length cp] 102)))
        have KX := Lib.hid (Blk.new wr 102 #[.string nm, .slice Ap px.length cp])
        have LK := Lib.hid (HS1.out.nm.look HNM.out)
        clear hq
        cases hf : hasName (l.take k) nm with
        | true =>
          have HE : Hid (R = .error 7) := by have := HRI.out; rw [HSP.out, HQ.out, if_pos rfl, hf, if_pos rfl] at this; exact this.symm
          have LK2 := Lib.hid (by have := LK.out; rw [hf] at this; exact this)
          clear hf LK HSP HSR HNP
          go_wp2_with fail
          refine (CN.out _).mono ?_
          rintro e w3 ⟨rfl, rfl⟩
          rw [HQ.out]
          go_wp2_with (at_lookup; refine Mp.wpList_lookup_run _ rfl _ _ 164 false rfl _ _ _ rfl rfl LK2.out ?_)
          go_ret2
          exact OwnPost.err HE.out HS1.out.below
        | false =>
          have HT0 : Hid (ownF n (restR n l k (takeP n k px ow)) = R) := by have := HRI.out; rw [HSR.out HQ.out hf] at this; exact this
          have LK2 := Lib.hid (by have := LK.out; rw [hf] at this; exact this)
          clear hf LK HSP HSR
          obtain ⟨D1, own1, nd1⟩ := HS1.out.nm
          have hs1 : k < maxLen := by unfold maxLen; omega
          have HND := Lib.hid nd1
          have HOW := Lib.hid own1
          clear nd1 own1 HRI
          go_wp2_with fail
          refine (CN.out _).mono ?_
          rintro e w3 ⟨rfl, rfl⟩
          rw [HQ.out]
          go_wp2_with (first | (at_lookup; refine Mp.wpList_lookup_run _ rfl _ _ 164 false rfl _ _ _ rfl rfl LK2.out ?_) | (at_mapUpdate; refine wpList_mapUpdate_own _ rfl _ _ _ 164 rfl 9 4 keyS Tryd.underlying164 _ b1 k D1 rfl HOW.out hs1 _ _ _ rfl rfl (keyOf_string_mk Tryd.underlying9 HNM.out) _ [] (plainElem_bool Tryd.underlying4 true) ?_))
          intro w4 hown4 hgrow4
          have HS4 : Hid (OwSt w w4 g b1 b2 n #[.slice A1 n c1, v2, v3, v4] l (k + 1) ow) := ⟨HS1.out.bx.grown hgrow4 (fun e => HNE.out.1 (by injection e)), ⟨_, hown4, HNP.out _ HND.out HOW.out.isMap⟩, HS1.out.ow.grown hgrow4 (fun e => HNE.out.2.2.1 (by injection e with e; exact e.symm)), HS1.out.below.grown hgrow4 HS1.out.below.size (fun q hq => by cases hq; exact HNE.out.2.2.2.1)⟩
          have KX4 := Lib.hid (KX.out.grown hgrow4 (fun e => by injection e with e; have := HS.out.nm; obtain ⟨DD, hDD, _⟩ := this; have := hDD.lt; omega))
          have kx := KX4.out.c2
          clear hown4 hgrow4 HND HOW HS1 KX LK2 HS hat hs1 HNP KX4
          go_wp2_with fail
          clear hd1 hd2 kx
          go_loopw [37] (fun iv wr => ∃ (i : Nat) (o2 : Own), i ≤ px.length ∧ iv = .int .i64 (i : Int) ∧ Hid (ownF n (restR n l k (takeP n k (px.drop i) o2)) = R) ∧ Hid (OwSt w wr g b1 b2 n #[.slice A1 n c1, v2, v3, v4] l (k + 1) o2)) (fun iv _ => px.length - (intOf iv).toNat)
          case atStart => exact ⟨0, ow, Nat.zero_le _, rfl, HT0.out, HS4.out⟩
          case round =>
            clear HT0 HS4
            obtain ⟨i, o2, hi, rfl, HT, HS⟩ := hrel
            have hi0' : (0 : Int) ≤ (i : Int) := by omega
            have hi5 : (i : Int) ≤ 1000 := by omega
            have hbx := HS.out.bx.c4
            by_cases hin : i < px.length
            · have hf1 : decide (i < px.length) = true := decide_eq_true hin
              have hf2 : decide ((i : Int) < (px.length : Int)) = true := decide_eq_true (by omega)
              have hin1 : (i : Int) < (px.length : Int) := by omega
              obtain ⟨bp, op, e1, hbp, hcp⟩ := HRP.out (by omega)
              subst e1
              have ct : wr.cell? ⟨bp, op + i, none⟩ = some (.int .i64 px[i]) := (HS.out.below.cell (p := ⟨bp, op + i, none⟩) hbp).trans (hcp i _ (by simp [hin]))
              have HTD := Lib.hid (takeP_drop (n := n) (i := k) hin o2)
              generalize px[i] = p at *
              clear hcp hbp
              by_cases p0 : p < 0
              · have y1 : decide (p < 0) = true := decide_eq_true p0
                have HE : Hid (R = .error 6) := by have := HT.out; rw [HTD.out, if_pos (Or.inl p0)] at this; exact this.symm
                clear p0
                go_wp2_with fail
                go_ret2
                exact OwnPost.err HE.out HS.out.below
              have y1 : decide (p < 0) = false := decide_eq_false p0
              by_cases p1 : (n : Int) ≤ p
              · have y2 : decide ((n : Int) ≤ p) = true := decide_eq_true p1
                have HE : Hid (R = .error 6) := by have := HT.out; rw [HTD.out, if_pos (Or.inr p1)] at this; exact this.symm
                clear p0 p1
                go_wp2_with fail
                go_ret2
                exact OwnPost.err HE.out HS.out.below
              have y2 : decide ((n : Int) ≤ p) = false := decide_eq_false p1
              obtain ⟨m, rfl⟩ : ∃ m : Nat, p = (m : Int) := ⟨p.toNat, by omega⟩
              have hmn : m < n := by omega
              have hm0 : (0 : Int) ≤ (m : Int) := by omega
              have hmn1 : (m : Int) < (n : Int) := by omega
              have y3 : decide (n ≤ m) = false := decide_eq_false (by omega)
              have HTE : Hid (takeP n k (px.drop i) o2 = if (o2 m).isSome then .error 7 else takeP n k (px.drop (i + 1)) (o2.put m k)) := by show _ = _; rw [HTD.out, if_neg (by omega)]; rfl
              have hm1000 : m ≤ 1000 := by omega
              clear HTD p0 p1
              obtain ⟨c0, hlk⟩ := HS.out.ow.lookOk hm1000
              cases ho : (o2 m).isSome with
              | true =>
                rw [ho] at hlk
                have HLK := Lib.hid hlk
                have HE : Hid (R = .error 7) := by have := HT.out; rw [HTE.out, if_pos ho] at this; exact this.symm
                clear ho hlk
                go_wp2_with (at_lookup; refine Mp.wpList_lookup_run _ rfl _ _ 103 true rfl _ _ _ rfl rfl HLK.out ?_)
                go_ret2
                exact OwnPost.err HE.out (by have := HS.out.below; first | exact this | exact this.alloc this.size _)
              | false =>
                rw [ho] at hlk
                have HLK := Lib.hid hlk
                have HT2 : Hid (ownF n (restR n l k (takeP n k (px.drop (i + 1)) (o2.put m k))) = R) := by have := HT.out; rw [HTE.out, ho, if_neg (by simp)] at this; exact this
                have HON : Hid (o2 m = none) := by cases h : o2 m with | none => rfl | some z => rw [h] at ho; cases ho
                obtain ⟨D2, own2, od2⟩ := HS.out.ow
                have hs2 : Maps.size D2 < maxLen := by rw [od2.size]; have := cntO_le o2 n; unfold maxLen; omega
                have HOW := Lib.hid own2
                have HOD := Lib.hid od2
                have HM1 := Lib.hid hm1000
                have HK1 : Hid (k ≤ 1000) := by show k ≤ 1000; omega
                clear ho hlk own2 od2 hm1000
                go_wp2_with (first | (at_lookup; refine Mp.wpList_lookup_run _ rfl _ _ 103 true rfl _ _ _ rfl rfl HLK.out ?_) | (at_mapUpdate; refine wpList_mapUpdate_own _ rfl _ _ _ 103 rfl 3 3 keyI Tryd.underlying103 _ b2 (Maps.size D2) D2 rfl HOW.out hs2 _ _ _ rfl rfl (keyI_mk HM1.out) _ [] (plainElem_int Tryd.underlying3 (wf_nat HK1.out)) ?_))
                intro w5 hown5 hgrow5
                have HS5 : Hid (OwSt w w5 g b1 b2 n #[.slice A1 n c1, v2, v3, v4] l (k + 1) (o2.put m k)) := ⟨HS.out.bx.grown hgrow5 (fun e => HNE.out.2.1 (by injection e)), HS.out.nm.grown hgrow5 (fun e => HNE.out.2.2.1 (by injection e)), ⟨_, Mp.tight hown5, HOD.out.put (HOW.out.tidy keyI) hmn HON.out⟩, HS.out.below.grown hgrow5 HS.out.below.size (fun q hq => by cases hq; exact HNE.out.2.2.2.2)⟩
                clear hown5 hgrow5 HOW HOD HLK HS hs2 hbx ct
                go_wp2_with fail
                go_roundw
                case rel => exact ⟨i + 1, o2.put m k, hin, by go_num, HT2.out, HS5.out⟩
                case measure => simp [intOf]; omega
            · obtain rfl : i = px.length := by omega
              have hf1 : decide (px.length < px.length) = false := decide_eq_false (Nat.lt_irrefl _)
              have hf2 : decide ((px.length : Int) < (px.length : Int)) = false := decide_eq_false (Int.lt_irrefl _)
              have HR2 : Hid (ownF n (ownGo n l (l.drop (k + 1)) (k + 1) o2) = R) := by have := HT.out; rw [takeP_end] at this; exact this
              go_wp2_with fail
              go_roundw
              case rel => exact ⟨k + 1, o2, hkn, by go_num, HR2.out, HS.out⟩
              case measure => simp [intOf]; omega
    · obtain rfl : k = l.length := by omega
      have hd1 : decide (l.length < l.length) = false := decide_eq_false (Nat.lt_irrefl _)
      have hd2 : decide ((l.length : Int) < (l.length : Int)) = false := decide_eq_false (Int.lt_irrefl _)
      have HF : Hid ((if fullO n ow then Except.ok ow else .error 6) = R) := by have := HRI.out; rw [ownGo_end] at this; exact this
      have hbx := HS.out.bx.c4
      obtain ⟨D2, own2, od2⟩ := HS.out.ow
      have HOW := Lib.hid own2
      have hsz := od2.size
      have hcl := cntO_le ow n
      by_cases hfu : cntO ow n < n
      · have HE : Hid (R = .error 6) := by
          have := HF.out
          rw [if_neg (fun h => (cntO_full ow n).1 h hfu)] at this
          exact this.symm
        have z1 : decide (Maps.size D2 < n) = true := decide_eq_true (by rw [hsz]; exact hfu)
        have z2 : decide (((Maps.size D2 : Nat) : Int) < (n : Int)) = true := decide_eq_true (by rw [hsz]; omega)
        clear hfu hsz hcl HRI own2 od2
        go_wp2_with (at_len; refine wpList_len_own _ rfl _ 103 rfl 3 3 Tryd.underlying103 _ b2 _ D2 rfl HOW.out ?_)
        go_ret2
        exact OwnPost.err HE.out HS.out.below
      · have HE : Hid (R = .ok ow) := by
          have := HF.out
          rw [if_pos ((cntO_full ow n).2 hfu)] at this
          exact this.symm
        have z1 : decide (Maps.size D2 < n) = false := decide_eq_false (by rw [hsz]; exact hfu)
        have z2 : decide (((Maps.size D2 : Nat) : Int) < (n : Int)) = false := decide_eq_false (by rw [hsz]; omega)
        clear hfu hsz hcl HRI own2 od2
        go_wp2_with (at_len; refine wpList_len_own _ rfl _ 103 rfl 3 3 Tryd.underlying103 _ b2 _ D2 rfl HOW.out ?_)
        go_ret2
        exact OwnPost.ok HE.out HS.out.ow HNE.out.2.2.2.2 HS.out.below
end Go.Proofs.YtfopmaeaclbknaaDoor.Pr
