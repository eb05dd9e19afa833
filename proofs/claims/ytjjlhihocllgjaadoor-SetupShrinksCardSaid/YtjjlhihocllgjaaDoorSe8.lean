/- Contract of setup.read. Printed by gen_se8.py. -/
import Derived.Test.YtjjlhihocllgjaaDoorSe7
import Derived.ScopeJumps
import Derived.Deep.RegionHeld3
namespace Go.Proofs.YtjjlhihocllgjaaDoor.Se
open Go.ChangeShapes Go.WideShapes Go.ChangeAt Go.RowKit Gn Cat Lex Ros
set_option linter.unusedVariables false
set_option linter.unusedSimpArgs false
/-- a setup that the call itself reads: its block, its four rows -/
structure Rdp (w : World) (base gs : Nat) (S : SetD) (A1 A2 A3 A4 : Option Addr) (c1 c2 c3 c4 : Nat) : Prop where
  k : Blk w gs 43 #[.slice A1 S.ps.length c1, .slice A2 S.bs.length c2, .slice A3 S.cs.length c3, .slice A4 S.ad.length c4]
  o1 : w.ownsRow base 77 5 (.slice A1 S.ps.length c1) S.ps.length (S.ps.flatMap Prod.cells)
  o2 : w.ownsRow base 116 4 (.slice A2 S.bs.length c2) S.bs.length (S.bs.flatMap Bid.cells)
  o3 : w.ownsRow base 111 3 (.slice A3 S.cs.length c3) S.cs.length (S.cs.flatMap Cp.cells)
  o4 : w.ownsRow base 114 3 (.slice A4 S.ad.length c4) S.ad.length (S.ad.flatMap Asd.cells)
  le : base ≤ gs
def Rd (w : World) (base gs : Nat) (S : SetD) : Prop := ∃ A1 A2 A3 A4 c1 c2 c3 c4, Rdp w base gs S A1 A2 A3 A4 c1 c2 c3 c4
theorem Rdp.keep {w w' : World} {base gs : Nat} {S : SetD} {A1 A2 A3 A4 : Option Addr} {c1 c2 c3 c4 : Nat} (h : Rdp w base gs S A1 A2 A3 A4 c1 c2 c3 c4) (b : Below w.heap.size w w') : Rdp w' base gs S A1 A2 A3 A4 c1 c2 c3 c4 :=
  ⟨h.k.below' b, own_below h.o1 b, own_below h.o2 b, own_below h.o3 b, own_below h.o4 b, h.le⟩
theorem Rd.keep {w w' : World} {base gs : Nat} {S : SetD} (h : Rd w base gs S) (b : Below w.heap.size w w') : Rd w' base gs S := by
  obtain ⟨A1, A2, A3, A4, c1, c2, c3, c4, h⟩ := h
  exact ⟨A1, A2, A3, A4, c1, c2, c3, c4, h.keep b⟩
/-- a scope that is left forward to one label: at each goto the walk goes on behind the label -/
theorem wp_scope_fwd {P : Program} {a : Act} {w : World} {Q : Exit → Act → World → Prop} {c rest : Code} (l : Nat) (hf : findLabel c l = some rest)
    (first : c.wp P (Exit.jump l (fun a w => rest.wp P (Exit.noGoto Q) a w) Q) a w) : (Code.scope c).wp P Q a w :=
  wp_scope_jumps l _ (fun _ _ => 0) hf first fun a w h => Code.wp_mono (fun e a w h2 => by cases e <;> first | exact h2 | exact h2.elim) h
theorem setCell_grown (w : World) (g i : Nat) (u : Value) : w.grownBy (w.setCell ⟨g, i, none⟩ u) (some g) :=
  ⟨rfl, rfl, rfl, by rw [World.size_setCell]; exact Nat.le_refl _, fun k hk hne => Below.heap_setCell w ⟨g, i, none⟩ u k (fun e => hne (by rw [e]))⟩
theorem own_own_apart {w : World} {base base' e e' s s' n n' : Nat} {v v' : Value} {xs xs' : List Value} (h : w.ownsRow base e s v n xs) (h' : w.ownsRow base' e' s' v' n' xs') (hne : e ≠ e') : v.ownBlock = none ∨ v.ownBlock ≠ v'.ownBlock := by
  rcases h'.2 with ⟨rfl, _⟩ | ⟨g', cap, cur, rfl, _, hh, _⟩
  · cases v.ownBlock with
    | none => exact .inl rfl
    | some g => exact .inr (by simp [Value.ownBlock])
  · exact .inr (own_apart h (g := g') (t := e') (cs := cur) hh hne)
theorem own_grown {w w2 : World} {base base' e e' s s' n n' : Nat} {v v' : Value} {xs xs' : List Value} (h : w.ownsRow base e s v n xs) (h' : w.ownsRow base' e' s' v' n' xs') (hne : e ≠ e') (hg : w.grownBy w2 v'.ownBlock) : w2.ownsRow base e s v n xs := h.kept hg (own_own_apart h h' hne)
theorem own_put {w : World} {base e s n g i : Nat} {t : TypeId} {cs : Array Value} {v u : Value} {xs : List Value} (h : w.ownsRow base e s v n xs) (k : Blk w g t cs) (hne : e ≠ t) : (w.setCell ⟨g, i, none⟩ u).ownsRow base e s v n xs := h.kept (setCell_grown w g i u) (.inr (own_apart h k hne))

theorem rd_1 {w w2 : World} {base gs : Nat} {S : SetD} {A1 A2 A3 A4 A5 : Option Addr} {c1 c2 c3 c4 c5 : Nat} (h : Rdp w base gs S A1 A2 A3 A4 c1 c2 c3 c4) (x : Prod) (hgr : w.grownBy w2 (Value.slice A1 S.ps.length c1).ownBlock)
    (hown : w2.ownsRow base 77 5 (.slice A5 (S.ps.length + 1) c5) (S.ps.length + 1) (S.ps.flatMap Prod.cells ++ x.cells)) : Rdp (w2.setCell ⟨gs, 0, none⟩ (.slice A5 (S.ps.length + 1) c5)) base gs { S with ps := S.ps ++ [x] } A5 A2 A3 A4 c5 c2 c3 c4 := by
  have kk := h.k.grown hgr (fun e => own_apart h.o1 h.k (by decide) e.symm)
  have e1 : (S.ps ++ [x]).length = S.ps.length + 1 := by simp
  have e2 : (S.ps ++ [x]).flatMap Prod.cells = S.ps.flatMap Prod.cells ++ x.cells := by simp
  refine ⟨?_, ?_, ?_, ?_, ?_, h.le⟩
  · have := kk.put 0 (.slice A5 (S.ps.length + 1) c5)
    rw [show ({ S with ps := S.ps ++ [x] } : SetD).ps.length = S.ps.length + 1 from e1]
    exact this
  · show World.ownsRow _ _ _ _ _ _ _; dsimp only; rw [e2, e1]; exact own_put (i := 0) (u := .slice A5 (S.ps.length + 1) c5) hown kk (by decide)
  · show World.ownsRow _ _ _ _ _ _ _; dsimp only; exact own_put (own_grown h.o2 h.o1 (by decide) hgr) kk (by decide)
  · show World.ownsRow _ _ _ _ _ _ _; dsimp only; exact own_put (own_grown h.o3 h.o1 (by decide) hgr) kk (by decide)
  · show World.ownsRow _ _ _ _ _ _ _; dsimp only; exact own_put (own_grown h.o4 h.o1 (by decide) hgr) kk (by decide)
theorem rd_2 {w w2 : World} {base gs : Nat} {S : SetD} {A1 A2 A3 A4 A5 : Option Addr} {c1 c2 c3 c4 c5 : Nat} (h : Rdp w base gs S A1 A2 A3 A4 c1 c2 c3 c4) (x : Bid) (hgr : w.grownBy w2 (Value.slice A2 S.bs.length c2).ownBlock)
    (hown : w2.ownsRow base 116 4 (.slice A5 (S.bs.length + 1) c5) (S.bs.length + 1) (S.bs.flatMap Bid.cells ++ x.cells)) : Rdp (w2.setCell ⟨gs, 1, none⟩ (.slice A5 (S.bs.length + 1) c5)) base gs { S with bs := S.bs ++ [x] } A1 A5 A3 A4 c1 c5 c3 c4 := by
  have kk := h.k.grown hgr (fun e => own_apart h.o2 h.k (by decide) e.symm)
  have e1 : (S.bs ++ [x]).length = S.bs.length + 1 := by simp
  have e2 : (S.bs ++ [x]).flatMap Bid.cells = S.bs.flatMap Bid.cells ++ x.cells := by simp
  refine ⟨?_, ?_, ?_, ?_, ?_, h.le⟩
  · have := kk.put 1 (.slice A5 (S.bs.length + 1) c5)
    rw [show ({ S with bs := S.bs ++ [x] } : SetD).bs.length = S.bs.length + 1 from e1]
    exact this
  · show World.ownsRow _ _ _ _ _ _ _; dsimp only; exact own_put (own_grown h.o1 h.o2 (by decide) hgr) kk (by decide)
  · show World.ownsRow _ _ _ _ _ _ _; dsimp only; rw [e2, e1]; exact own_put (i := 1) (u := .slice A5 (S.bs.length + 1) c5) hown kk (by decide)
  · show World.ownsRow _ _ _ _ _ _ _; dsimp only; exact own_put (own_grown h.o3 h.o2 (by decide) hgr) kk (by decide)
  · show World.ownsRow _ _ _ _ _ _ _; dsimp only; exact own_put (own_grown h.o4 h.o2 (by decide) hgr) kk (by decide)
theorem rd_3 {w w2 : World} {base gs : Nat} {S : SetD} {A1 A2 A3 A4 A5 : Option Addr} {c1 c2 c3 c4 c5 : Nat} (h : Rdp w base gs S A1 A2 A3 A4 c1 c2 c3 c4) (x : Cp) (hgr : w.grownBy w2 (Value.slice A3 S.cs.length c3).ownBlock)
    (hown : w2.ownsRow base 111 3 (.slice A5 (S.cs.length + 1) c5) (S.cs.length + 1) (S.cs.flatMap Cp.cells ++ x.cells)) : Rdp (w2.setCell ⟨gs, 2, none⟩ (.slice A5 (S.cs.length + 1) c5)) base gs { S with cs := S.cs ++ [x] } A1 A2 A5 A4 c1 c2 c5 c4 := by
  have kk := h.k.grown hgr (fun e => own_apart h.o3 h.k (by decide) e.symm)
  have e1 : (S.cs ++ [x]).length = S.cs.length + 1 := by simp
  have e2 : (S.cs ++ [x]).flatMap Cp.cells = S.cs.flatMap Cp.cells ++ x.cells := by simp
  refine ⟨?_, ?_, ?_, ?_, ?_, h.le⟩
  · have := kk.put 2 (.slice A5 (S.cs.length + 1) c5)
    rw [show ({ S with cs := S.cs ++ [x] } : SetD).cs.length = S.cs.length + 1 from e1]
    exact this
  · show World.ownsRow _ _ _ _ _ _ _; dsimp only; exact own_put (own_grown h.o1 h.o3 (by decide) hgr) kk (by decide)
  · show World.ownsRow _ _ _ _ _ _ _; dsimp only; exact own_put (own_grown h.o2 h.o3 (by decide) hgr) kk (by decide)
  · show World.ownsRow _ _ _ _ _ _ _; dsimp only; rw [e2, e1]; exact own_put (i := 2) (u := .slice A5 (S.cs.length + 1) c5) hown kk (by decide)
  · show World.ownsRow _ _ _ _ _ _ _; dsimp only; exact own_put (own_grown h.o4 h.o3 (by decide) hgr) kk (by decide)
theorem rd_4 {w w2 : World} {base gs : Nat} {S : SetD} {A1 A2 A3 A4 A5 : Option Addr} {c1 c2 c3 c4 c5 : Nat} (h : Rdp w base gs S A1 A2 A3 A4 c1 c2 c3 c4) (x : Asd) (hgr : w.grownBy w2 (Value.slice A4 S.ad.length c4).ownBlock)
    (hown : w2.ownsRow base 114 3 (.slice A5 (S.ad.length + 1) c5) (S.ad.length + 1) (S.ad.flatMap Asd.cells ++ x.cells)) : Rdp (w2.setCell ⟨gs, 3, none⟩ (.slice A5 (S.ad.length + 1) c5)) base gs { S with ad := S.ad ++ [x] } A1 A2 A3 A5 c1 c2 c3 c5 := by
  have kk := h.k.grown hgr (fun e => own_apart h.o4 h.k (by decide) e.symm)
  have e1 : (S.ad ++ [x]).length = S.ad.length + 1 := by simp
  have e2 : (S.ad ++ [x]).flatMap Asd.cells = S.ad.flatMap Asd.cells ++ x.cells := by simp
  refine ⟨?_, ?_, ?_, ?_, ?_, h.le⟩
  · have := kk.put 3 (.slice A5 (S.ad.length + 1) c5)
    rw [show ({ S with ad := S.ad ++ [x] } : SetD).ad.length = S.ad.length + 1 from e1]
    exact this
  · show World.ownsRow _ _ _ _ _ _ _; dsimp only; exact own_put (own_grown h.o1 h.o4 (by decide) hgr) kk (by decide)
  · show World.ownsRow _ _ _ _ _ _ _; dsimp only; exact own_put (own_grown h.o2 h.o4 (by decide) hgr) kk (by decide)
  · show World.ownsRow _ _ _ _ _ _ _; dsimp only; exact own_put (own_grown h.o3 h.o4 (by decide) hgr) kk (by decide)
  · show World.ownsRow _ _ _ _ _ _ _; dsimp only; rw [e2, e1]; exact own_put (i := 3) (u := .slice A5 (S.ad.length + 1) c5) hown kk (by decide)
theorem line_1 {S : SetD} {ws : List ByteArray} (h : widthW (wd ws 0) = 0) : lineE S ws = 22 := by unfold lineE; rw [if_pos h]
theorem line_2 {S : SetD} {ws : List ByteArray} (h : widthW (wd ws 0) ≠ 0) (h2 : ws.length ≠ widthW (wd ws 0)) : lineE S ws = 2 := by unfold lineE; rw [if_neg h, if_pos h2]
theorem line_3 {S : SetD} {ws : List ByteArray} (h : widthW (wd ws 0) ≠ 0) (h2 : ws.length = widthW (wd ws 0)) (h3 : nameE S (wd ws 0) (wd ws 1) ≠ 0) : lineE S ws = nameE S (wd ws 0) (wd ws 1) := by unfold lineE; rw [if_neg h, if_neg (fun e => e h2), if_pos h3]
theorem line_4 {S : SetD} {ws : List ByteArray} (h : widthW (wd ws 0) ≠ 0) (h2 : ws.length = widthW (wd ws 0)) (h3 : nameE S (wd ws 0) (wd ws 1) = 0) : lineE S ws = numsE (ws.drop 2) := by unfold lineE; rw [if_neg h, if_neg (fun e => e h2), if_neg (fun e => e h3)]
theorem Rdp.setW {w : World} {base gs : Nat} {S : SetD} {A1 A2 A3 A4 : Option Addr} {c1 c2 c3 c4 : Nat} (h : Rdp w base gs S A1 A2 A3 A4 c1 c2 c3 c4) (hl : S.ps.length ≤ 4500 ∧ S.bs.length ≤ 4500 ∧ S.cs.length ≤ 4500 ∧ S.ad.length ≤ 4500) (hp : ∀ p ∈ S.ps, p.name.size ≤ maxLen) (hb : ∀ p ∈ S.bs, p.name.size ≤ maxLen) : SetW w (.slice A1 S.ps.length c1) (.slice A2 S.bs.length c2) (.slice A3 S.cs.length c3) (.slice A4 S.ad.length c4) S :=
  ⟨Sl.of_own h.o1, Sl.of_own h.o2, Sl.of_own h.o3, Sl.of_own h.o4, by omega, by omega, by omega, by omega, hp, hb⟩
def ReadPost (S : SetD) (ws : List ByteArray) (base gs : Nat) (w : World) (e : Ending) (w' : World) : Prop := e = .returned (.int .i64 (lineE S ws)) ∧ Below base w w' ∧ (lineE S ws = 0 → Rd w' base gs (stepW S ws)) ∧ ∀ k cs, Blk w k 9 cs → Blk w' k 9 cs
theorem below_mono {b c : Nat} {w w' : World} (h : Below c w w') (hb : b ≤ c) : Below b w w' := h.mono hb
theorem prod_info : (Tryd.prog.info? 77).map (fun i => (i.zero, i.size, i.bytes)) = some (some (.agg #[.string ⟨#[]⟩, .int .i64 0, .int .i64 0, .int .i64 0, .int .i64 0]), 5, 48) := by kernel_rfl
theorem bid_info : (Tryd.prog.info? 116).map (fun i => (i.zero, i.size, i.bytes)) = some (some (.agg #[.string ⟨#[]⟩, .int .i64 0, .int .i64 0, .int .i64 0]), 4, 40) := by kernel_rfl
theorem cap_info : (Tryd.prog.info? 111).map (fun i => (i.zero, i.size, i.bytes)) = some (some (.agg #[.int .i64 0, .int .i64 0, .int .i64 0]), 3, 24) := by kernel_rfl
theorem asd_info : (Tryd.prog.info? 114).map (fun i => (i.zero, i.size, i.bytes)) = some (some (.agg #[.int .i64 0, .int .i64 0, .int .i64 0]), 3, 24) := by kernel_rfl

theorem below_of_drew (w : World) (o : Obj) : Below w.heap.size w (w.drew.alloc o) := ((Below.refl _ _).drew).alloc (Nat.le_refl _) o
theorem stepW_1 {S : SetD} {w0 a1 a2 a3 a4 a5 : ByteArray} (h : eqB w0 wProd = true) : stepW S [w0, a1, a2, a3, a4, a5] = { S with ps := S.ps ++ [⟨a1, numV a2, numV a3, numV a4, numV a5⟩] } := by
  unfold stepW
  rw [if_pos (show eqB (wd [w0, a1, a2, a3, a4, a5] 0) wProd = true from h)]
  rfl
theorem stepW_2 {S : SetD} {w0 a1 a2 a3 a4 : ByteArray} (h1 : eqB w0 wProd = false) (h : eqB w0 wBid = true) : stepW S [w0, a1, a2, a3, a4] = { S with bs := S.bs ++ [⟨a1, numV a2, numV a3, numV a4⟩] } := by
  unfold stepW
  rw [if_neg (show ¬ eqB (wd [w0, a1, a2, a3, a4] 0) wProd = true by show ¬ eqB w0 wProd = true; rw [h1]; simp), if_pos (show eqB (wd [w0, a1, a2, a3, a4] 0) wBid = true from h)]
  rfl
theorem stepW_3 {S : SetD} {w0 a1 a2 a3 : ByteArray} (h1 : eqB w0 wProd = false) (h2 : eqB w0 wBid = false) (h : eqB w0 wCap = true) : stepW S [w0, a1, a2, a3] = { S with cs := S.cs ++ [⟨idxW S w0 a1, numV a2, numV a3⟩] } := by
  unfold stepW
  rw [if_neg (show ¬ eqB (wd [w0, a1, a2, a3] 0) wProd = true by show ¬ eqB w0 wProd = true; rw [h1]; simp), if_neg (show ¬ eqB (wd [w0, a1, a2, a3] 0) wBid = true by show ¬ eqB w0 wBid = true; rw [h2]; simp), if_pos (show eqB (wd [w0, a1, a2, a3] 0) wCap = true from h)]
  rfl
theorem stepW_4 {S : SetD} {w0 a1 a2 a3 : ByteArray} (h1 : eqB w0 wProd = false) (h2 : eqB w0 wBid = false) (h3 : eqB w0 wCap = false) : stepW S [w0, a1, a2, a3] = { S with ad := S.ad ++ [⟨idxW S w0 a1, numV a2, numV a3⟩] } := by
  unfold stepW
  rw [if_neg (show ¬ eqB (wd [w0, a1, a2, a3] 0) wProd = true by show ¬ eqB w0 wProd = true; rw [h1]; simp), if_neg (show ¬ eqB (wd [w0, a1, a2, a3] 0) wBid = true by show ¬ eqB w0 wBid = true; rw [h2]; simp), if_neg (show ¬ eqB (wd [w0, a1, a2, a3] 0) wCap = true by show ¬ eqB w0 wCap = true; rw [h3]; simp)]
  rfl
theorem bw_of {wn W w2 : World} {row : Option Nat} (hgr : W.grownBy w2 row) (h : Below wn.heap.size wn W) : Below wn.heap.size wn W := h
theorem after_app {wn W w2 : World} {base base9 e s n n9 b : Nat} {v v9 : Value} {xs xs9 : List Value} {cs : Array Value} (bW : Below wn.heap.size wn W) (ho : wn.ownsRow base e s v n xs) (hb : Blk wn b 9 cs) (hi : wn.ownsRow base9 3 1 v9 n9 xs9) (h1 : e ≠ 9) (h2 : 3 ≠ e) (hgr : W.grownBy w2 v.ownBlock) : Blk w2 b 9 cs ∧ w2.ownsRow base9 3 1 v9 n9 xs9 :=
  ⟨(hb.below' bW).grown hgr (fun e => own_apart ho hb h1 e.symm), own_grown (own_below hi bW) (own_below ho bW) h2 hgr⟩
theorem own_pos {w : World} {base e s n : Nat} {A : Option Addr} {c : Nat} {xs : List Value} (h : w.ownsRow base e s (.slice A n c) n xs) (h0 : 0 < n) : ∃ g c2, Value.slice A n c = .slice (some ⟨g, 0, none⟩) n c2 := by
  rcases h.2 with ⟨e1, e2⟩ | ⟨g, cap, cur, e1, _⟩
  · omega
  · exact ⟨g, cap, e1⟩
theorem len4 {ws : List ByteArray} (h : ws.length = 4) : ∃ a0 a1 a2 a3 : ByteArray, ws = [a0, a1, a2, a3] := by
  match ws, h with
  | [a, b, c, d], _ => exact ⟨a, b, c, d, rfl⟩
theorem len5 {ws : List ByteArray} (h : ws.length = 5) : ∃ a0 a1 a2 a3 a4 : ByteArray, ws = [a0, a1, a2, a3, a4] := by
  match ws, h with
  | [a, b, c, d, e], _ => exact ⟨a, b, c, d, e, rfl⟩
theorem len6 {ws : List ByteArray} (h : ws.length = 6) : ∃ a0 a1 a2 a3 a4 a5 : ByteArray, ws = [a0, a1, a2, a3, a4, a5] := by
  match ws, h with
  | [a, b, c, d, e, f], _ => exact ⟨a, b, c, d, e, f, rfl⟩
theorem str_tail {w : World} {b c : Nat} {ws : List ByteArray} (hb : b < w.heap.size) (h : Row w b 0 (ws.map Value.string)) (k1 : ws.length ≤ c) (k2 : c ≤ maxLen) (h2 : 2 ≤ ws.length) (W : World) (bw : Below w.heap.size w W) : Sl W 1 (.slice (some ⟨b, 2, none⟩) (ws.length - 2) (c - 2)) (ws.length - 2) ((ws.drop 2).map Value.string) := by
  refine ⟨by simp, _, _, rfl, by omega, by omega, fun _ => ⟨b, 2, rfl, Nat.lt_of_lt_of_le hb bw.size, fun j u hu => ?_⟩⟩
  rw [bw.cell (p := ⟨b, 2 + j, none⟩) hb]
  have h3 := h (2 + j) u
  rw [Nat.zero_add] at h3
  refine h3 ?_
  rw [List.map_drop, List.getElem?_drop] at hu
  exact hu
set_option maxHeartbeats 8000000 in
set_option maxRecDepth 100000 in
theorem read_any (S : SetD) (ws : List ByteArray) (base gs b : Nat) (w : World) (h : Rd w base gs S) (hw : Blk w b 9 (ws.map Value.string).toArray) (hbb : b < w.heap.size) (h0 : 0 < ws.length) (hs : ∀ x ∈ ws, x.size ≤ 5000) (hl : S.ps.length ≤ 4500 ∧ S.bs.length ≤ 4500 ∧ S.cs.length ≤ 4500 ∧ S.ad.length ≤ 4500) (hp : ∀ p ∈ S.ps, p.name.size ≤ maxLen) (hbn : ∀ p ∈ S.bs, p.name.size ≤ maxLen) (hll : ws.length ≤ 5000) : Calls Tryd.prog 87 #[.pointer (some ⟨gs, 0, none⟩), .slice (some ⟨b, 0, none⟩) ws.length ws.length] w (ReadPost S ws base gs w) := by
  obtain ⟨A1, A2, A3, A4, c1, c2x, c3x, c4x, hR⟩ := h
  have R0 := Lib.hid hR
  have HL := Lib.hid hl
  have HPN := Lib.hid hp
  have HBN := Lib.hid hbn
  have k1 : ws.length ≤ ws.length := Nat.le_refl _
  have k2 : ws.length ≤ maxLen := by unfold maxLen; omega
  have hb := hbb
  have hrow : Row w b 0 (ws.map Value.string) := fun j u hu => by rw [Nat.zero_add, hw.cell]; simpa using hu
  have HBW := Lib.hid hw
  have hgb : Hid (gs ≠ b) := fun e => Blk.apart hR.k hw (by decide) e
  obtain ⟨w0, hw0⟩ : ∃ w0, w0 = wd ws 0 := ⟨_, rfl⟩
  have HW0 : Hid (wd ws 0 = w0) := hw0.symm
  have hl5 : (ws.length : Int) ≤ 5000 := by omega
  have hl0 : (0 : Int) < (ws.length : Int) := by omega
  have hc0 : w.cell? ⟨b, 0, none⟩ = some (.string w0) := by
    have := hrow 0 (.string ws[0]) (by rw [List.getElem?_map, List.getElem?_eq_getElem h0]; rfl)
    rw [Nat.add_zero] at this
    rw [this, hw0]
    congr 2
    simp [wd, List.getD, h0]
  unfold ReadPost
  have L1 := Lib.hid (line_1 (S := S) (ws := ws))
  have L2 := Lib.hid (line_2 (S := S) (ws := ws))
  have L3 := Lib.hid (line_3 (S := S) (ws := ws))
  have L4 := Lib.hid (line_4 (S := S) (ws := ws))
  clear hR hw hl hp hbn hll hbb
  cases h1 : eqB w0 wProd with
  | true =>
    obtain ⟨j0, hj0, hj1, hj2, hj3⟩ := info_parts prod_info
    have HWD : Hid (widthW w0 = 6) := by show _ = _; unfold widthW; rw [h1]; rfl
    have CWD := Lib.hid (width_any w0 w)
    rw [HWD.out] at CWD
    by_cases hlen : ws.length = 6
    case neg =>
      have t2 : (((6 : Nat) : Int) == (ws.length : Int)) = false := beq_eq_false_iff_ne.2 (by omega)
      have t3 : ((6 : Int) == (ws.length : Int)) = false := beq_eq_false_iff_ne.2 (by omega)
      have HV := Lib.hid (L2.out (by rw [HW0.out, HWD.out]; decide) (by rw [HW0.out, HWD.out]; exact hlen))
      clear hrow hw0 L1 L2 L3 L4 h1  hlen
      go_enter Tryd.func87, Tryd.ntmps87
      go_wp2_with fail
      refine wp_scope_fwd 0 rfl ?_
      go_wp2_with fail
      refine CWD.out.mono ?_
      rintro e w1 ⟨rfl, rfl⟩
      go_wp2_with fail
      go_step3
      try go_big_open
      try dsimp only [Exit.then, Exit.inBlock, Exit.jump]
      refine ⟨rfl, ?_⟩
      go_wp2_with fail
      try go_step3
      go_wp2_with fail
      try dsimp only [Exit.noGoto, Exit.inBlock, Exit.then]
      go_ret
      exact ⟨by rw [HV.out]; rfl, Below.refl _ _, (fun e => absurd (HV.out.symm.trans e) (by decide)), fun _ _ h => h⟩
    obtain ⟨a0, a1, a2, a3, a4, a5, rfl⟩ : ∃ a0 a1 a2 a3 a4 a5 : ByteArray, ws = [a0, a1, a2, a3, a4, a5] := len6 hlen
    clear hlen
    obtain rfl : w0 = a0 := hw0
    have hc1 := (hrow 1 _ rfl)
    rw [Nat.zero_add] at hc1
    have L3 := Lib.hid (fun h => L3.out (by rw [HW0.out, HWD.out]; decide) (by rw [HW0.out, HWD.out]; rfl) h)
    have L4 := Lib.hid (fun h => L4.out (by rw [HW0.out, HWD.out]; decide) (by rw [HW0.out, HWD.out]; rfl) h)
    have HCW : Hid (∀ W, Below w.heap.size w W → W.cell? ⟨b, 0, none⟩ = some (.string w0) ∧ W.cell? ⟨b, 1, none⟩ = some (.string a1)) := fun W bw => ⟨(bw.cell (p := ⟨b, 0, none⟩) hb).trans hc0, (bw.cell (p := ⟨b, 1, none⟩) hb).trans hc1⟩
    have CNM := Lib.hid (fun W (bw : Below w.heap.size w W) => named_any S _ _ _ _ w0 a1 W ((R0.out.keep bw).setW HL.out HPN.out HBN.out) (by rw [HWD.out]; decide) (Nat.le_trans (hs a1 (by simp)) (by decide)))
    have CNU := Lib.hid (fun W (bw : Below w.heap.size w W) => numbers_any [a2, a3, a4, a5] (.slice (some ⟨b, 2, none⟩) 4 4) W (str_tail (ws := [w0, a1, a2, a3, a4, a5]) hb hrow k1 k2 (by simp) W bw) (by simp) (fun x hx => hs x (by simp at hx ⊢; simp [hx])))
    have h1l := h1
    rw [lit_p] at h1l
    have hg := R0.out.k.c4
    have hgl := R0.out.k.lt
    have hcw := HCW.out _ (Below.refl _ _)
    have HH := Lib.hid (show eqB w0 wProd = true from h1)
    clear h1 L1 L2 hs hrow hc0 hc1 k1
    go_enter Tryd.func87, Tryd.ntmps87
    go_wp2_with fail
    refine wp_scope_fwd 0 rfl ?_
    go_wp2_with fail
    refine CWD.out.mono ?_
    rintro e w1 ⟨rfl, rfl⟩
    go_wp2_with fail
    have ED := Lib.hid ((Below.refl w.heap.size w).drew)
    have HKS : Hid (∀ W, Below w.heap.size w W → ((W.cell? ⟨gs, 0, none⟩ = some (.slice A1 S.ps.length c1) ∧ W.cell? ⟨gs, 1, none⟩ = some (.slice A2 S.bs.length c2x) ∧ W.cell? ⟨gs, 2, none⟩ = some (.slice A3 S.cs.length c3x) ∧ W.cell? ⟨gs, 3, none⟩ = some (.slice A4 S.ad.length c4x)) ∧ W.cell? ⟨b, 0, none⟩ = some (.string w0) ∧ W.cell? ⟨b, 1, none⟩ = some (.string a1))) := fun W bw => ⟨⟨(R0.out.k.below' bw).cell 0, (R0.out.k.below' bw).cell 1, (R0.out.k.below' bw).cell 2, (R0.out.k.below' bw).cell 3⟩, HCW.out W bw⟩
    go_region_held3 (fun W => (W.cell? ⟨gs, 0, none⟩ = some (.slice A1 S.ps.length c1) ∧ W.cell? ⟨gs, 1, none⟩ = some (.slice A2 S.bs.length c2x) ∧ W.cell? ⟨gs, 2, none⟩ = some (.slice A3 S.cs.length c3x) ∧ W.cell? ⟨gs, 3, none⟩ = some (.slice A4 S.ad.length c4x)) ∧ W.cell? ⟨b, 0, none⟩ = some (.string w0) ∧ W.cell? ⟨b, 1, none⟩ = some (.string a1)) (first | with_reducible exact HKS.out _ ED.out | go_keep) (first | (go_at_call 112; with_reducible refine (CNM.out _ ED.out).mono ?_; rintro e w9 ⟨ix, rfl, HIX0, dd⟩; have HIX := Lib.hid HIX0; replace ED := Lib.hid (chain0 ED.out dd); clear dd HIX0))
    have hbase : base ≤ w.heap.size := by have h1 := R0.out.le; have h2 := R0.out.k.lt; omega
    by_cases hne : nameE S w0 a1 = 0
    case neg =>
      have t5 : (nameE S w0 a1 != 0) = true := by simpa using hne
      have HV := Lib.hid (L3.out hne)
      have HQ : Hid (nameE S w0 a1 ≠ 0) := hne
      clear hne
      go_wp2_with fail
      go_step3
      try go_big_open
      try dsimp only [Exit.then, Exit.inBlock, Exit.jump]
      refine ⟨rfl, ?_⟩
      go_wp2_with fail
      try go_step3
      go_wp2_with fail
      try dsimp only [Exit.noGoto, Exit.inBlock, Exit.then]
      go_ret
      exact ⟨by rw [HV.out]; rfl, below_mono ED.out hbase, (fun e => absurd (HV.out.symm.trans e) HQ.out), fun _ _ h => h.below' ED.out⟩
    have t5 : (nameE S w0 a1 != 0) = false := by rw [hne]; rfl
    have HV4 := Lib.hid (L4.out hne)
    clear hne L3 L4 HIX
    go_wp2_with fail
    refine (CNU.out _ ED.out).mono ?_
    rintro e wn ⟨A6, n6, c6, rfl, HNI0, dd⟩
    have HNI := Lib.hid HNI0
    have hed9 := ED.out.size
    have ED2 := Lib.hid (chain0 ED.out dd)
    clear dd HNI0
    by_cases hnz : numsE [a2, a3, a4, a5] = 0
    case neg =>
      have t6 : (numsE [a2, a3, a4, a5] != 0) = true := by simpa using hnz
      have HQ : Hid (numsE [a2, a3, a4, a5] ≠ 0) := hnz
      clear hnz
      go_wp2_with fail
      go_step3
      try go_big_open
      try dsimp only [Exit.then, Exit.inBlock, Exit.jump]
      refine ⟨rfl, ?_⟩
      go_wp2_with fail
      try go_step3
      go_wp2_with fail
      try dsimp only [Exit.noGoto, Exit.inBlock, Exit.then]
      go_ret
      exact ⟨by rw [HV4.out]; rfl, below_mono ED2.out hbase, (fun e => absurd (HV4.out.symm.trans e) HQ.out), fun _ _ h => h.below' ED2.out⟩
    have t6 : (numsE [a2, a3, a4, a5] != 0) = false := by rw [hnz]; rfl
    obtain ⟨hn6, hoi⟩ := HNI.out hnz
    have HZ : Hid (lineE S [w0, a1, a2, a3, a4, a5] = 0) := HV4.out.trans hnz
    clear hnz HNI
    obtain rfl : n6 = 4 := hn6
    skip
    obtain ⟨g6, c6x, e6⟩ := own_pos hoi (by decide)
    injection e6 with e61 e62 e63
    subst e61 e63
    have HOI := Lib.hid hoi
    have ho6 := fun (j : Nat) (hj : j < 4) => hoi.cellAt j (by omega)
    have n0 : wn.cell? ⟨g6, 0, none⟩ = some (.int .i64 (numV a2)) := ho6 0 (by decide)
    have n1 : wn.cell? ⟨g6, 1, none⟩ = some (.int .i64 (numV a3)) := ho6 1 (by decide)
    have n2 : wn.cell? ⟨g6, 2, none⟩ = some (.int .i64 (numV a4)) := ho6 2 (by decide)
    have n3 : wn.cell? ⟨g6, 3, none⟩ = some (.int .i64 (numV a5)) := ho6 3 (by decide)
    have hg6 := (hoi.lt g6 rfl).2
    have R1 := Lib.hid (R0.out.keep ED2.out)
    have HB1 := Lib.hid (HBW.out.below' ED2.out)
    have hwb := HB1.out.lt
    have hcb : wn.cell? ⟨b, 1, none⟩ = some (.string a1) := by rw [HB1.out.cell 1]; rfl
    have hcb0 : wn.cell? ⟨b, 0, none⟩ = some (.string w0) := by rw [HB1.out.cell 0]; rfl
    have hgs4 := R1.out.k.c4
    have hgsl := R1.out.k.lt
    have hgn : gs ≠ b := hgb.out
    have hgi : gs ≠ g6 := fun e => own_apart HOI.out R1.out.k (by decide) (by rw [e]; rfl)
    clear hoi ho6 hg hgl hcw
    obtain ⟨y0, hy0_⟩ : ∃ y, y = numV a2 := ⟨_, rfl⟩
    rw [← hy0_] at n0
    have HY0 := Lib.hid hy0_
    clear hy0_
    obtain ⟨y1, hy1_⟩ : ∃ y, y = numV a3 := ⟨_, rfl⟩
    rw [← hy1_] at n1
    have HY1 := Lib.hid hy1_
    clear hy1_
    obtain ⟨y2, hy2_⟩ : ∃ y, y = numV a4 := ⟨_, rfl⟩
    rw [← hy2_] at n2
    have HY2 := Lib.hid hy2_
    clear hy2_
    obtain ⟨y3, hy3_⟩ : ∃ y, y = numV a5 := ⟨_, rfl⟩
    rw [← hy3_] at n3
    have HY3 := Lib.hid hy3_
    clear hy3_
    go_wp2_with fail
    have HKP : Hid (∀ W, Blk W b 9 (([w0, a1, a2, a3, a4, a5] : List ByteArray).map Value.string).toArray → W.ownsRow w9.heap.size 3 1 (.slice (some ⟨g6, 0, none⟩) 4 c6) 4 (intsC ([a2, a3, a4, a5].map numV)) → W.cell? ⟨b, 1, none⟩ = some (.string a1) ∧ W.cell? ⟨g6, 0, none⟩ = some (.int .i64 y0) ∧ W.cell? ⟨g6, 1, none⟩ = some (.int .i64 y1) ∧ W.cell? ⟨g6, 2, none⟩ = some (.int .i64 y2) ∧ W.cell? ⟨g6, 3, none⟩ = some (.int .i64 y3)) := fun W k1 k2 => ⟨by rw [k1.cell 1]; rfl, by rw [HY0.out]; exact k2.cellAt 0 (by decide), by rw [HY1.out]; exact k2.cellAt 1 (by decide), by rw [HY2.out]; exact k2.cellAt 2 (by decide), by rw [HY3.out]; exact k2.cellAt 3 (by decide)⟩
    refine wp_region_held_drew (S := fun W => W.cell? ⟨b, 1, none⟩ = some (.string a1) ∧ W.cell? ⟨g6, 0, none⟩ = some (.int .i64 y0) ∧ W.cell? ⟨g6, 1, none⟩ = some (.int .i64 y1) ∧ W.cell? ⟨g6, 2, none⟩ = some (.int .i64 y2) ∧ W.cell? ⟨g6, 3, none⟩ = some (.int .i64 y3)) (by kernel_rfl) ?_ (fun hHeld => ?_)
    · (try dsimp only)
      go_keep
    refine wpAnyH_take (i := 0) (v := ?v0_1001) rfl (by kernel_rfl) (by kernel_rfl) (by kernel_rfl) (fun _ _ _ h => h) (Or.inl ⟨by rfl, ?h0_1001⟩) (by assumption) ?r0_1001
    case h0_1001 => intro w hSw; (try dsimp only at hSw); go_simp; try with_reducible rfl
    try simp only [Act.put, List.setIfInBounds_toArray, List.set_cons_zero, List.set_cons_succ]
    refine wpAnyH_take (i := 1) (v := ?v1_1002) rfl (by kernel_rfl) (by kernel_rfl) (by kernel_rfl) (fun _ _ _ h => h) (Or.inl ⟨by rfl, ?h1_1002⟩) (by assumption) ?r1_1002
    case h1_1002 => intro w hSw; (try dsimp only at hSw); go_simp; try with_reducible rfl
    try simp only [Act.put, List.setIfInBounds_toArray, List.set_cons_zero, List.set_cons_succ]
    refine wpAnyH_take (i := 2) (v := ?v2_1003) rfl (by kernel_rfl) (by kernel_rfl) (by kernel_rfl) (fun _ _ _ h => h) (Or.inl ⟨by rfl, ?h2_1003⟩) (by assumption) ?r2_1003
    case h2_1003 => intro w hSw; (try dsimp only at hSw); go_simp; try with_reducible rfl
    try simp only [Act.put, List.setIfInBounds_toArray, List.set_cons_zero, List.set_cons_succ]
    refine wpAnyH_take (i := 3) (v := ?v3_1004) rfl (by kernel_rfl) (by kernel_rfl) (by kernel_rfl) (fun _ _ _ h => h) (Or.inl ⟨by rfl, ?h3_1004⟩) (by assumption) ?r3_1004
    case h3_1004 => intro w hSw; (try dsimp only at hSw); go_simp; try with_reducible rfl
    try simp only [Act.put, List.setIfInBounds_toArray, List.set_cons_zero, List.set_cons_succ]
    refine wpAnyH_take (i := 5) (v := ?v5_1005) rfl (by kernel_rfl) (by kernel_rfl) (by kernel_rfl) (fun _ _ _ h => h) (Or.inl ⟨by rfl, ?h5_1005⟩) (by assumption) ?r5_1005
    case h5_1005 => intro w hSw; (try dsimp only at hSw); go_simp; try with_reducible rfl
    try simp only [Act.put, List.setIfInBounds_toArray, List.set_cons_zero, List.set_cons_succ]
    refine wpAnyH_take (i := 6) (v := ?v6_1006) rfl (by kernel_rfl) (by kernel_rfl) (by kernel_rfl) (fun _ _ _ h => h) (Or.inl ⟨by rfl, ?h6_1006⟩) (by assumption) ?r6_1006
    case h6_1006 => intro w hSw; (try dsimp only at hSw); go_simp; try with_reducible rfl
    try simp only [Act.put, List.setIfInBounds_toArray, List.set_cons_zero, List.set_cons_succ]
    refine wpAnyH_take (i := 7) (v := ?v7_1007) rfl (by kernel_rfl) (by kernel_rfl) (by kernel_rfl) (fun _ _ _ h => h) (Or.inl ⟨by rfl, ?h7_1007⟩) (by assumption) ?r7_1007
    case h7_1007 => intro w hSw; (try dsimp only at hSw); go_simp; try with_reducible rfl
    try simp only [Act.put, List.setIfInBounds_toArray, List.set_cons_zero, List.set_cons_succ]
    refine wpAnyH_take (i := 8) (v := ?v8_1008) rfl (by kernel_rfl) (by kernel_rfl) (by kernel_rfl) (fun _ _ _ h => h) (Or.inl ⟨by rfl, ?h8_1008⟩) (by assumption) ?r8_1008
    case h8_1008 => intro w hSw; (try dsimp only at hSw); go_simp; try with_reducible rfl
    try simp only [Act.put, List.setIfInBounds_toArray, List.set_cons_zero, List.set_cons_succ]
    refine wpAnyH_take (i := 9) (v := ?v9_1009) rfl (by kernel_rfl) (by kernel_rfl) (by kernel_rfl) (fun _ _ _ h => h) (Or.inl ⟨by rfl, ?h9_1009⟩) (by assumption) ?r9_1009
    case h9_1009 => intro w hSw; (try dsimp only at hSw); go_simp; try with_reducible rfl
    try simp only [Act.put, List.setIfInBounds_toArray, List.set_cons_zero, List.set_cons_succ]
    refine wpAnyH_take (i := 10) (v := ?v10_1010) rfl (by kernel_rfl) (by kernel_rfl) (by kernel_rfl) (fun _ _ _ h => h) (Or.inl ⟨by rfl, ?h10_1010⟩) (by assumption) ?r10_1010
    case h10_1010 => intro w hSw; (try dsimp only at hSw); go_simp; try with_reducible rfl
    try simp only [Act.put, List.setIfInBounds_toArray, List.set_cons_zero, List.set_cons_succ]
    refine wpAnyH_take (i := 11) (v := ?v11_1011) rfl (by kernel_rfl) (by kernel_rfl) (by kernel_rfl) (fun _ _ _ h => h) (Or.inl ⟨by rfl, ?h11_1011⟩) (by assumption) ?r11_1011
    case h11_1011 => intro w hSw; (try dsimp only at hSw); go_simp; try with_reducible rfl
    try simp only [Act.put, List.setIfInBounds_toArray, List.set_cons_zero, List.set_cons_succ]
    refine wpAnyH_take (i := 12) (v := ?v12_1012) rfl (by kernel_rfl) (by kernel_rfl) (by kernel_rfl) (fun _ _ _ h => h) (Or.inl ⟨by rfl, ?h12_1012⟩) (by assumption) ?r12_1012
    case h12_1012 => intro w hSw; (try dsimp only at hSw); go_simp; try with_reducible rfl
    try simp only [Act.put, List.setIfInBounds_toArray, List.set_cons_zero, List.set_cons_succ]
    refine wpAnyH_take (i := 13) (v := ?v13_1013) rfl (by kernel_rfl) (by kernel_rfl) (by kernel_rfl) (fun _ _ _ h => h) (Or.inl ⟨by rfl, ?h13_1013⟩) (by assumption) ?r13_1013
    case h13_1013 => intro w hSw; (try dsimp only at hSw); go_simp; try with_reducible rfl
    try simp only [Act.put, List.setIfInBounds_toArray, List.set_cons_zero, List.set_cons_succ]
    refine wpAnyH_take (i := 14) (v := ?v14_1014) rfl (by kernel_rfl) (by kernel_rfl) (by kernel_rfl) (fun _ _ _ h => h) (Or.inl ⟨by rfl, ?h14_1014⟩) (by assumption) ?r14_1014
    case h14_1014 => intro w hSw; (try dsimp only at hSw); go_simp; try with_reducible rfl
    try simp only [Act.put, List.setIfInBounds_toArray, List.set_cons_zero, List.set_cons_succ]
    refine wpAnyH_take (i := 15) (v := ?v15_1015) rfl (by kernel_rfl) (by kernel_rfl) (by kernel_rfl) (fun _ _ _ h => h) (Or.inl ⟨by rfl, ?h15_1015⟩) (by assumption) ?r15_1015
    case h15_1015 => intro w hSw; (try dsimp only at hSw); go_simp; try with_reducible rfl
    try simp only [Act.put, List.setIfInBounds_toArray, List.set_cons_zero, List.set_cons_succ]
    refine wpAnyH_take (i := 16) (v := ?v16_1016) rfl (by kernel_rfl) (by kernel_rfl) (by kernel_rfl) (fun _ _ _ h => h) (Or.inl ⟨by rfl, ?h16_1016⟩) (by assumption) ?r16_1016
    case h16_1016 => intro w hSw; (try dsimp only at hSw); go_simp; try with_reducible rfl
    try simp only [Act.put, List.setIfInBounds_toArray, List.set_cons_zero, List.set_cons_succ]
    refine wpAnyH_take (i := 17) (v := ?v17_1017) rfl (by kernel_rfl) (by kernel_rfl) (by kernel_rfl) (fun _ _ _ h => h) (Or.inl ⟨by rfl, ?h17_1017⟩) (by assumption) ?r17_1017
    case h17_1017 => intro w hSw; (try dsimp only at hSw); go_simp; try with_reducible rfl
    try simp only [Act.put, List.setIfInBounds_toArray, List.set_cons_zero, List.set_cons_succ]
    refine wpAnyH_take (i := 18) (v := ?v18_1018) rfl (by kernel_rfl) (by kernel_rfl) (by kernel_rfl) (fun _ _ _ h => h) (Or.inl ⟨by rfl, ?h18_1018⟩) (by assumption) ?r18_1018
    case h18_1018 => intro w hSw; (try dsimp only at hSw); go_simp; try with_reducible rfl
    try simp only [Act.put, List.setIfInBounds_toArray, List.set_cons_zero, List.set_cons_succ]
    refine wpAnyH_take (i := 19) (v := ?v19_1019) rfl (by kernel_rfl) (by kernel_rfl) (by kernel_rfl) (fun _ _ _ h => h) (Or.inl ⟨by rfl, ?h19_1019⟩) (by assumption) ?r19_1019
    case h19_1019 => intro w hSw; (try dsimp only at hSw); go_simp; try with_reducible rfl
    try simp only [Act.put, List.setIfInBounds_toArray, List.set_cons_zero, List.set_cons_succ]
    refine wpAnyH_take (i := 20) (v := ?v20_1020) rfl (by kernel_rfl) (by kernel_rfl) (by kernel_rfl) (fun _ _ _ h => h) (Or.inl ⟨by rfl, ?h20_1020⟩) (by assumption) ?r20_1020
    case h20_1020 => intro w hSw; (try dsimp only at hSw); go_simp; try with_reducible rfl
    try simp only [Act.put, List.setIfInBounds_toArray, List.set_cons_zero, List.set_cons_succ]
    refine wpAnyH_ready (rs := [4, 21]) (by kernel_rfl) (by simp) ?_
    refine AllReadyH.cons (o := ?o4_1021) ?ho4_1021 (fun KK hKK => ?st4_1021) ?mo4_1021
    case ho4_1021 => (simp only [List.getElem?_toArray, List.getElem?_cons_succ, List.getElem?_cons_zero]; rfl)
    case st4_1021 =>
      go_simp
      refine hKK.out _ _ ?_ (fun hHeld2 => ?_)
      · (try dsimp only)
        first | with_reducible exact HA9 | go_keep
      clear hKK KK hHeld
      have hHeld := hHeld2
      clear hHeld2
      try simp only [Act.put, List.setIfInBounds_toArray, List.set_cons_zero, List.set_cons_succ]
      refine wpAnyH_ready (rs := [21]) (by kernel_rfl) (by simp) ?_
      refine AllReadyH.cons (o := ?o21_1022) ?ho21_1022 (fun KK hKK => ?st21_1022) ?mo21_1022
      case ho21_1022 => (simp only [List.getElem?_toArray, List.getElem?_cons_succ, List.getElem?_cons_zero]; rfl)
      case st21_1022 =>
        go_simp
        refine hKK.out _ _ ?_ (fun hHeld2 => ?_)
        · (try dsimp only)
          first | with_reducible exact HA9 | go_keep
        clear hKK KK hHeld
        have hHeld := hHeld2
        clear hHeld2
        try simp only [Act.put, List.setIfInBounds_toArray, List.set_cons_zero, List.set_cons_succ]
        refine wpAnyH_ready (rs := [22]) (by kernel_rfl) (by simp) ?_
        refine AllReadyH.cons (o := ?o22_1023) ?ho22_1023 (fun KK hKK => ?st22_1023) ?mo22_1023
        case ho22_1023 => (simp only [List.getElem?_toArray, List.getElem?_cons_succ, List.getElem?_cons_zero]; rfl)
        case st22_1023 =>
          (refine step_append_own _ rfl (.tmp 49) (.tmp 66) _ rfl base 77 j0 _ 5 48 Tryd.underlying22 hj0 hj1 hj2 hj3 rfl (by decide) (.slice A1 S.ps.length c1) S.ps.length (S.ps.flatMap Prod.cells) rfl (by first | exact own_below (R1.out.o1.alloc _) ((Below.refl _ _).drew) | exact (own_below R1.out.o1 ((Below.refl _ _).drew)).alloc _ | exact R1.out.o1.alloc _) ⟨wn.heap.size, 0, none⟩ 1 1 [.string a1, .int .i64 y0, .int .i64 y1, .int .i64 y2, .int .i64 y3] rfl rfl (cells_new wn _ _) (by intro u hu; simp at hu; (first | (rcases hu with rfl | rfl | rfl <;> rfl) | (rcases hu with rfl | rfl | rfl | rfl <;> rfl) | (rcases hu with rfl | rfl | rfl | rfl | rfl <;> rfl))) (by have := HL.out; unfold maxLen; omega) (by have := HL.out; omega) (by have := R1.out.le; simp; omega) ?_; intro v' w2 hown hgr _; obtain ⟨A5, c5, rfl⟩ := Gn.own_form hown; have O5 := Lib.hid hown; have G5 := Lib.hid hgr; have BW := Lib.hid (bw_of (wn := wn) hgr (by first | exact (below_new wn _).drew | exact (below_of_drew wn _) | exact below_new wn _)); have RW := Lib.hid (R1.out.keep BW.out); have KK := after_app BW.out R1.out.o1 HB1.out HOI.out (by decide) (by decide) hgr; have HA9 := HKP.out w2 KK.1 KK.2; have SK : Hid (∀ k cs, Blk w k 9 cs → Blk w2 k 9 cs) := (fun k cs hk => ((hk.below' ED2.out).below' BW.out).grown hgr (fun e => own_apart R1.out.o1 (hk.below' ED2.out) (by decide) e.symm)); have KG := Lib.hid (RW.out.k.grown hgr (fun e => own_apart RW.out.o1 RW.out.k (by decide) e.symm)); have hg2 := KG.out.c4; have hgl2 := KG.out.lt; have B5 := Lib.hid (((below_mono ED2.out hbase).trans (BW.out.mono (Nat.le_trans hbase ED2.out.size))).grown hgr (Nat.le_trans (Nat.le_trans hbase ED2.out.size) BW.out.size) (fun q hq => (R1.out.o1.lt q hq).1)); clear hown hgr KK)
          refine hKK.out _ _ ?_ (fun hHeld2 => ?_)
          · (try dsimp only)
            first | with_reducible exact HA9 | go_keep
          clear hKK KK hHeld
          have hHeld := hHeld2
          clear hHeld2
          try simp only [Act.put, List.setIfInBounds_toArray, List.set_cons_zero, List.set_cons_succ]
          refine wpAnyH_take (i := 23) (v := ?v23_1024) rfl (by kernel_rfl) (by kernel_rfl) (by kernel_rfl) (fun _ _ _ h => h) (Or.inl ⟨by rfl, ?h23_1024⟩) (by assumption) ?r23_1024
          case h23_1024 => intro w hSw; (try dsimp only at hSw); go_simp; try with_reducible rfl
          try simp only [Act.put, List.setIfInBounds_toArray, List.set_cons_zero, List.set_cons_succ]
          refine wpAnyH_take (i := 24) (v := ?v24_1025) rfl (by kernel_rfl) (by kernel_rfl) (by kernel_rfl) (fun _ _ _ h => h) (Or.inl ⟨by rfl, ?h24_1025⟩) (by assumption) ?r24_1025
          case h24_1025 => intro w hSw; (try dsimp only at hSw); go_simp; try with_reducible rfl
          try simp only [Act.put, List.setIfInBounds_toArray, List.set_cons_zero, List.set_cons_succ]
          refine wpAnyH_ready (rs := [25]) (by kernel_rfl) (by simp) ?_
          refine AllReadyH.cons (o := ?o25_1026) ?ho25_1026 (fun KK hKK => ?st25_1026) ?mo25_1026
          case ho25_1026 => (simp only [List.getElem?_toArray, List.getElem?_cons_succ, List.getElem?_cons_zero]; rfl)
          case st25_1026 =>
            go_simp
            refine hKK.out _ _ ?_ (fun hHeld2 => ?_)
            · (try dsimp only)
              first | with_reducible exact HA9 | go_keep
            clear hKK KK hHeld
            have hHeld := hHeld2
            clear hHeld2
            try simp only [Act.put, List.setIfInBounds_toArray, List.set_cons_zero, List.set_cons_succ]
            refine wpAnyH_done (by kernel_rfl) ?_ _
            have R2 := Lib.hid (rd_1 RW.out ⟨a1, y0, y1, y2, y3⟩ G5.out O5.out)
            have B6 := Lib.hid (B5.out.setCell (p := ⟨gs, 0, none⟩) (show base ≤ gs from R1.out.le) (.slice A5 (S.ps.length + 1) c5))
            go_wp2_with fail
            try go_step3
            go_wp2_with fail
            try dsimp only [Exit.jump, Exit.noGoto, Exit.inBlock, Exit.then]
            go_ret
            exact ⟨by rw [HV4.out]; rfl, B6.out, fun _ => by rw [stepW_1 HH.out]; rw [← HY0.out, ← HY1.out, ← HY2.out, ← HY3.out]; exact ⟨_, _, _, _, _, _, _, _, R2.out⟩, fun k cs hk => (SK.out k cs hk).far (p := ⟨gs, 0, none⟩) (fun e => Blk.apart (hk.below' ED2.out) R1.out.k (by decide) e) _⟩
          case mo25_1026 =>
            exact AllReadyH.nil
        case mo22_1023 =>
          exact AllReadyH.nil
      case mo21_1022 =>
        exact AllReadyH.nil
    case mo4_1021 =>
      refine AllReadyH.cons (o := ?o21_1027) ?ho21_1027 (fun KK hKK => ?st21_1027) ?mo21_1027
      case ho21_1027 => (simp only [List.getElem?_toArray, List.getElem?_cons_succ, List.getElem?_cons_zero]; rfl)
      case st21_1027 =>
        go_simp
        refine hKK.out _ _ ?_ (fun hHeld2 => ?_)
        · (try dsimp only)
          first | with_reducible exact HA9 | go_keep
        clear hKK KK hHeld
        have hHeld := hHeld2
        clear hHeld2
        try simp only [Act.put, List.setIfInBounds_toArray, List.set_cons_zero, List.set_cons_succ]
        refine wpAnyH_ready (rs := [4]) (by kernel_rfl) (by simp) ?_
        refine AllReadyH.cons (o := ?o4_1028) ?ho4_1028 (fun KK hKK => ?st4_1028) ?mo4_1028
        case ho4_1028 => (simp only [List.getElem?_toArray, List.getElem?_cons_succ, List.getElem?_cons_zero]; rfl)
        case st4_1028 =>
          go_simp
          refine hKK.out _ _ ?_ (fun hHeld2 => ?_)
          · (try dsimp only)
            first | with_reducible exact HA9 | go_keep
          clear hKK KK hHeld
          have hHeld := hHeld2
          clear hHeld2
          try simp only [Act.put, List.setIfInBounds_toArray, List.set_cons_zero, List.set_cons_succ]
          refine wpAnyH_ready (rs := [22]) (by kernel_rfl) (by simp) ?_
          refine AllReadyH.cons (o := ?o22_1029) ?ho22_1029 (fun KK hKK => ?st22_1029) ?mo22_1029
          case ho22_1029 => (simp only [List.getElem?_toArray, List.getElem?_cons_succ, List.getElem?_cons_zero]; rfl)
          case st22_1029 =>
            (refine step_append_own _ rfl (.tmp 49) (.tmp 66) _ rfl base 77 j0 _ 5 48 Tryd.underlying22 hj0 hj1 hj2 hj3 rfl (by decide) (.slice A1 S.ps.length c1) S.ps.length (S.ps.flatMap Prod.cells) rfl (by first | exact own_below (R1.out.o1.alloc _) ((Below.refl _ _).drew) | exact (own_below R1.out.o1 ((Below.refl _ _).drew)).alloc _ | exact R1.out.o1.alloc _) ⟨wn.heap.size, 0, none⟩ 1 1 [.string a1, .int .i64 y0, .int .i64 y1, .int .i64 y2, .int .i64 y3] rfl rfl (cells_new wn _ _) (by intro u hu; simp at hu; (first | (rcases hu with rfl | rfl | rfl <;> rfl) | (rcases hu with rfl | rfl | rfl | rfl <;> rfl) | (rcases hu with rfl | rfl | rfl | rfl | rfl <;> rfl))) (by have := HL.out; unfold maxLen; omega) (by have := HL.out; omega) (by have := R1.out.le; simp; omega) ?_; intro v' w2 hown hgr _; obtain ⟨A5, c5, rfl⟩ := Gn.own_form hown; have O5 := Lib.hid hown; have G5 := Lib.hid hgr; have BW := Lib.hid (bw_of (wn := wn) hgr (by first | exact (below_new wn _).drew | exact (below_of_drew wn _) | exact below_new wn _)); have RW := Lib.hid (R1.out.keep BW.out); have KK := after_app BW.out R1.out.o1 HB1.out HOI.out (by decide) (by decide) hgr; have HA9 := HKP.out w2 KK.1 KK.2; have SK : Hid (∀ k cs, Blk w k 9 cs → Blk w2 k 9 cs) := (fun k cs hk => ((hk.below' ED2.out).below' BW.out).grown hgr (fun e => own_apart R1.out.o1 (hk.below' ED2.out) (by decide) e.symm)); have KG := Lib.hid (RW.out.k.grown hgr (fun e => own_apart RW.out.o1 RW.out.k (by decide) e.symm)); have hg2 := KG.out.c4; have hgl2 := KG.out.lt; have B5 := Lib.hid (((below_mono ED2.out hbase).trans (BW.out.mono (Nat.le_trans hbase ED2.out.size))).grown hgr (Nat.le_trans (Nat.le_trans hbase ED2.out.size) BW.out.size) (fun q hq => (R1.out.o1.lt q hq).1)); clear hown hgr KK)
            refine hKK.out _ _ ?_ (fun hHeld2 => ?_)
            · (try dsimp only)
              first | with_reducible exact HA9 | go_keep
            clear hKK KK hHeld
            have hHeld := hHeld2
            clear hHeld2
            try simp only [Act.put, List.setIfInBounds_toArray, List.set_cons_zero, List.set_cons_succ]
            refine wpAnyH_take (i := 23) (v := ?v23_1030) rfl (by kernel_rfl) (by kernel_rfl) (by kernel_rfl) (fun _ _ _ h => h) (Or.inl ⟨by rfl, ?h23_1030⟩) (by assumption) ?r23_1030
            case h23_1030 => intro w hSw; (try dsimp only at hSw); go_simp; try with_reducible rfl
            try simp only [Act.put, List.setIfInBounds_toArray, List.set_cons_zero, List.set_cons_succ]
            refine wpAnyH_take (i := 24) (v := ?v24_1031) rfl (by kernel_rfl) (by kernel_rfl) (by kernel_rfl) (fun _ _ _ h => h) (Or.inl ⟨by rfl, ?h24_1031⟩) (by assumption) ?r24_1031
            case h24_1031 => intro w hSw; (try dsimp only at hSw); go_simp; try with_reducible rfl
            try simp only [Act.put, List.setIfInBounds_toArray, List.set_cons_zero, List.set_cons_succ]
            refine wpAnyH_ready (rs := [25]) (by kernel_rfl) (by simp) ?_
            refine AllReadyH.cons (o := ?o25_1032) ?ho25_1032 (fun KK hKK => ?st25_1032) ?mo25_1032
            case ho25_1032 => (simp only [List.getElem?_toArray, List.getElem?_cons_succ, List.getElem?_cons_zero]; rfl)
            case st25_1032 =>
              go_simp
              refine hKK.out _ _ ?_ (fun hHeld2 => ?_)
              · (try dsimp only)
                first | with_reducible exact HA9 | go_keep
              clear hKK KK hHeld
              have hHeld := hHeld2
              clear hHeld2
              try simp only [Act.put, List.setIfInBounds_toArray, List.set_cons_zero, List.set_cons_succ]
              refine wpAnyH_done (by kernel_rfl) ?_ _
              have R2 := Lib.hid (rd_1 RW.out ⟨a1, y0, y1, y2, y3⟩ G5.out O5.out)
              have B6 := Lib.hid (B5.out.setCell (p := ⟨gs, 0, none⟩) (show base ≤ gs from R1.out.le) (.slice A5 (S.ps.length + 1) c5))
              go_wp2_with fail
              try go_step3
              go_wp2_with fail
              try dsimp only [Exit.jump, Exit.noGoto, Exit.inBlock, Exit.then]
              go_ret
              exact ⟨by rw [HV4.out]; rfl, B6.out, fun _ => by rw [stepW_1 HH.out]; rw [← HY0.out, ← HY1.out, ← HY2.out, ← HY3.out]; exact ⟨_, _, _, _, _, _, _, _, R2.out⟩, fun k cs hk => (SK.out k cs hk).far (p := ⟨gs, 0, none⟩) (fun e => Blk.apart (hk.below' ED2.out) R1.out.k (by decide) e) _⟩
            case mo25_1032 =>
              exact AllReadyH.nil
          case mo22_1029 =>
            exact AllReadyH.nil
        case mo4_1028 =>
          exact AllReadyH.nil
      case mo21_1027 =>
        exact AllReadyH.nil
  | false =>
  cases h2 : eqB w0 wBid with
  | true =>
    obtain ⟨j0, hj0, hj1, hj2, hj3⟩ := info_parts bid_info
    have HWD : Hid (widthW w0 = 5) := by show _ = _; unfold widthW; rw [h1, h2]; rfl
    have CWD := Lib.hid (width_any w0 w)
    rw [HWD.out] at CWD
    by_cases hlen : ws.length = 5
    case neg =>
      have t2 : (((5 : Nat) : Int) == (ws.length : Int)) = false := beq_eq_false_iff_ne.2 (by omega)
      have t3 : ((5 : Int) == (ws.length : Int)) = false := beq_eq_false_iff_ne.2 (by omega)
      have HV := Lib.hid (L2.out (by rw [HW0.out, HWD.out]; decide) (by rw [HW0.out, HWD.out]; exact hlen))
      clear hrow hw0 L1 L2 L3 L4 h1 h2 hlen
      go_enter Tryd.func87, Tryd.ntmps87
      go_wp2_with fail
      refine wp_scope_fwd 0 rfl ?_
      go_wp2_with fail
      refine CWD.out.mono ?_
      rintro e w1 ⟨rfl, rfl⟩
      go_wp2_with fail
      go_step3
      try go_big_open
      try dsimp only [Exit.then, Exit.inBlock, Exit.jump]
      refine ⟨rfl, ?_⟩
      go_wp2_with fail
      try go_step3
      go_wp2_with fail
      try dsimp only [Exit.noGoto, Exit.inBlock, Exit.then]
      go_ret
      exact ⟨by rw [HV.out]; rfl, Below.refl _ _, (fun e => absurd (HV.out.symm.trans e) (by decide)), fun _ _ h => h⟩
    obtain ⟨a0, a1, a2, a3, a4, rfl⟩ : ∃ a0 a1 a2 a3 a4 : ByteArray, ws = [a0, a1, a2, a3, a4] := len5 hlen
    clear hlen
    obtain rfl : w0 = a0 := hw0
    have hc1 := (hrow 1 _ rfl)
    rw [Nat.zero_add] at hc1
    have L3 := Lib.hid (fun h => L3.out (by rw [HW0.out, HWD.out]; decide) (by rw [HW0.out, HWD.out]; rfl) h)
    have L4 := Lib.hid (fun h => L4.out (by rw [HW0.out, HWD.out]; decide) (by rw [HW0.out, HWD.out]; rfl) h)
    have HCW : Hid (∀ W, Below w.heap.size w W → W.cell? ⟨b, 0, none⟩ = some (.string w0) ∧ W.cell? ⟨b, 1, none⟩ = some (.string a1)) := fun W bw => ⟨(bw.cell (p := ⟨b, 0, none⟩) hb).trans hc0, (bw.cell (p := ⟨b, 1, none⟩) hb).trans hc1⟩
    have CNM := Lib.hid (fun W (bw : Below w.heap.size w W) => named_any S _ _ _ _ w0 a1 W ((R0.out.keep bw).setW HL.out HPN.out HBN.out) (by rw [HWD.out]; decide) (Nat.le_trans (hs a1 (by simp)) (by decide)))
    have CNU := Lib.hid (fun W (bw : Below w.heap.size w W) => numbers_any [a2, a3, a4] (.slice (some ⟨b, 2, none⟩) 3 3) W (str_tail (ws := [w0, a1, a2, a3, a4]) hb hrow k1 k2 (by simp) W bw) (by simp) (fun x hx => hs x (by simp at hx ⊢; simp [hx])))
    have h1l := h1
    rw [lit_p] at h1l
    have h2l := h2
    rw [lit_b] at h2l
    have hg := R0.out.k.c4
    have hgl := R0.out.k.lt
    have hcw := HCW.out _ (Below.refl _ _)
    have HH := Lib.hid (show eqB w0 wProd = false ∧ eqB w0 wBid = true from ⟨h1, h2⟩)
    clear h1 h2 L1 L2 hs hrow hc0 hc1 k1
    go_enter Tryd.func87, Tryd.ntmps87
    go_wp2_with fail
    refine wp_scope_fwd 0 rfl ?_
    go_wp2_with fail
    refine CWD.out.mono ?_
    rintro e w1 ⟨rfl, rfl⟩
    go_wp2_with fail
    have ED := Lib.hid ((Below.refl w.heap.size w).drew)
    have HKS : Hid (∀ W, Below w.heap.size w W → ((W.cell? ⟨gs, 0, none⟩ = some (.slice A1 S.ps.length c1) ∧ W.cell? ⟨gs, 1, none⟩ = some (.slice A2 S.bs.length c2x) ∧ W.cell? ⟨gs, 2, none⟩ = some (.slice A3 S.cs.length c3x) ∧ W.cell? ⟨gs, 3, none⟩ = some (.slice A4 S.ad.length c4x)) ∧ W.cell? ⟨b, 0, none⟩ = some (.string w0) ∧ W.cell? ⟨b, 1, none⟩ = some (.string a1))) := fun W bw => ⟨⟨(R0.out.k.below' bw).cell 0, (R0.out.k.below' bw).cell 1, (R0.out.k.below' bw).cell 2, (R0.out.k.below' bw).cell 3⟩, HCW.out W bw⟩
    go_region_held3 (fun W => (W.cell? ⟨gs, 0, none⟩ = some (.slice A1 S.ps.length c1) ∧ W.cell? ⟨gs, 1, none⟩ = some (.slice A2 S.bs.length c2x) ∧ W.cell? ⟨gs, 2, none⟩ = some (.slice A3 S.cs.length c3x) ∧ W.cell? ⟨gs, 3, none⟩ = some (.slice A4 S.ad.length c4x)) ∧ W.cell? ⟨b, 0, none⟩ = some (.string w0) ∧ W.cell? ⟨b, 1, none⟩ = some (.string a1)) (first | with_reducible exact HKS.out _ ED.out | go_keep) (first | (go_at_call 112; with_reducible refine (CNM.out _ ED.out).mono ?_; rintro e w9 ⟨ix, rfl, HIX0, dd⟩; have HIX := Lib.hid HIX0; replace ED := Lib.hid (chain0 ED.out dd); clear dd HIX0))
    have hbase : base ≤ w.heap.size := by have h1 := R0.out.le; have h2 := R0.out.k.lt; omega
    by_cases hne : nameE S w0 a1 = 0
    case neg =>
      have t5 : (nameE S w0 a1 != 0) = true := by simpa using hne
      have HV := Lib.hid (L3.out hne)
      have HQ : Hid (nameE S w0 a1 ≠ 0) := hne
      clear hne
      go_wp2_with fail
      go_step3
      try go_big_open
      try dsimp only [Exit.then, Exit.inBlock, Exit.jump]
      refine ⟨rfl, ?_⟩
      go_wp2_with fail
      try go_step3
      go_wp2_with fail
      try dsimp only [Exit.noGoto, Exit.inBlock, Exit.then]
      go_ret
      exact ⟨by rw [HV.out]; rfl, below_mono ED.out hbase, (fun e => absurd (HV.out.symm.trans e) HQ.out), fun _ _ h => h.below' ED.out⟩
    have t5 : (nameE S w0 a1 != 0) = false := by rw [hne]; rfl
    have HV4 := Lib.hid (L4.out hne)
    clear hne L3 L4 HIX
    go_wp2_with fail
    refine (CNU.out _ ED.out).mono ?_
    rintro e wn ⟨A6, n6, c6, rfl, HNI0, dd⟩
    have HNI := Lib.hid HNI0
    have hed9 := ED.out.size
    have ED2 := Lib.hid (chain0 ED.out dd)
    clear dd HNI0
    by_cases hnz : numsE [a2, a3, a4] = 0
    case neg =>
      have t6 : (numsE [a2, a3, a4] != 0) = true := by simpa using hnz
      have HQ : Hid (numsE [a2, a3, a4] ≠ 0) := hnz
      clear hnz
      go_wp2_with fail
      go_step3
      try go_big_open
      try dsimp only [Exit.then, Exit.inBlock, Exit.jump]
      refine ⟨rfl, ?_⟩
      go_wp2_with fail
      try go_step3
      go_wp2_with fail
      try dsimp only [Exit.noGoto, Exit.inBlock, Exit.then]
      go_ret
      exact ⟨by rw [HV4.out]; rfl, below_mono ED2.out hbase, (fun e => absurd (HV4.out.symm.trans e) HQ.out), fun _ _ h => h.below' ED2.out⟩
    have t6 : (numsE [a2, a3, a4] != 0) = false := by rw [hnz]; rfl
    obtain ⟨hn6, hoi⟩ := HNI.out hnz
    have HZ : Hid (lineE S [w0, a1, a2, a3, a4] = 0) := HV4.out.trans hnz
    clear hnz HNI
    obtain rfl : n6 = 3 := hn6
    skip
    obtain ⟨g6, c6x, e6⟩ := own_pos hoi (by decide)
    injection e6 with e61 e62 e63
    subst e61 e63
    have HOI := Lib.hid hoi
    have ho6 := fun (j : Nat) (hj : j < 3) => hoi.cellAt j (by omega)
    have n0 : wn.cell? ⟨g6, 0, none⟩ = some (.int .i64 (numV a2)) := ho6 0 (by decide)
    have n1 : wn.cell? ⟨g6, 1, none⟩ = some (.int .i64 (numV a3)) := ho6 1 (by decide)
    have n2 : wn.cell? ⟨g6, 2, none⟩ = some (.int .i64 (numV a4)) := ho6 2 (by decide)
    have hg6 := (hoi.lt g6 rfl).2
    have R1 := Lib.hid (R0.out.keep ED2.out)
    have HB1 := Lib.hid (HBW.out.below' ED2.out)
    have hwb := HB1.out.lt
    have hcb : wn.cell? ⟨b, 1, none⟩ = some (.string a1) := by rw [HB1.out.cell 1]; rfl
    have hcb0 : wn.cell? ⟨b, 0, none⟩ = some (.string w0) := by rw [HB1.out.cell 0]; rfl
    have hgs4 := R1.out.k.c4
    have hgsl := R1.out.k.lt
    have hgn : gs ≠ b := hgb.out
    have hgi : gs ≠ g6 := fun e => own_apart HOI.out R1.out.k (by decide) (by rw [e]; rfl)
    clear hoi ho6 hg hgl hcw
    obtain ⟨y0, hy0_⟩ : ∃ y, y = numV a2 := ⟨_, rfl⟩
    rw [← hy0_] at n0
    have HY0 := Lib.hid hy0_
    clear hy0_
    obtain ⟨y1, hy1_⟩ : ∃ y, y = numV a3 := ⟨_, rfl⟩
    rw [← hy1_] at n1
    have HY1 := Lib.hid hy1_
    clear hy1_
    obtain ⟨y2, hy2_⟩ : ∃ y, y = numV a4 := ⟨_, rfl⟩
    rw [← hy2_] at n2
    have HY2 := Lib.hid hy2_
    clear hy2_
    go_wp2_with fail
    have HKP : Hid (∀ W, Blk W b 9 (([w0, a1, a2, a3, a4] : List ByteArray).map Value.string).toArray → W.ownsRow w9.heap.size 3 1 (.slice (some ⟨g6, 0, none⟩) 3 c6) 3 (intsC ([a2, a3, a4].map numV)) → W.cell? ⟨b, 1, none⟩ = some (.string a1) ∧ W.cell? ⟨g6, 0, none⟩ = some (.int .i64 y0) ∧ W.cell? ⟨g6, 1, none⟩ = some (.int .i64 y1) ∧ W.cell? ⟨g6, 2, none⟩ = some (.int .i64 y2)) := fun W k1 k2 => ⟨by rw [k1.cell 1]; rfl, by rw [HY0.out]; exact k2.cellAt 0 (by decide), by rw [HY1.out]; exact k2.cellAt 1 (by decide), by rw [HY2.out]; exact k2.cellAt 2 (by decide)⟩
    refine wp_region_held_drew (S := fun W => W.cell? ⟨b, 1, none⟩ = some (.string a1) ∧ W.cell? ⟨g6, 0, none⟩ = some (.int .i64 y0) ∧ W.cell? ⟨g6, 1, none⟩ = some (.int .i64 y1) ∧ W.cell? ⟨g6, 2, none⟩ = some (.int .i64 y2)) (by kernel_rfl) ?_ (fun hHeld => ?_)
    · (try dsimp only)
      go_keep
    refine wpAnyH_take (i := 0) (v := ?v0_2001) rfl (by kernel_rfl) (by kernel_rfl) (by kernel_rfl) (fun _ _ _ h => h) (Or.inl ⟨by rfl, ?h0_2001⟩) (by assumption) ?r0_2001
    case h0_2001 => intro w hSw; (try dsimp only at hSw); go_simp; try with_reducible rfl
    try simp only [Act.put, List.setIfInBounds_toArray, List.set_cons_zero, List.set_cons_succ]
    refine wpAnyH_take (i := 1) (v := ?v1_2002) rfl (by kernel_rfl) (by kernel_rfl) (by kernel_rfl) (fun _ _ _ h => h) (Or.inl ⟨by rfl, ?h1_2002⟩) (by assumption) ?r1_2002
    case h1_2002 => intro w hSw; (try dsimp only at hSw); go_simp; try with_reducible rfl
    try simp only [Act.put, List.setIfInBounds_toArray, List.set_cons_zero, List.set_cons_succ]
    refine wpAnyH_take (i := 2) (v := ?v2_2003) rfl (by kernel_rfl) (by kernel_rfl) (by kernel_rfl) (fun _ _ _ h => h) (Or.inl ⟨by rfl, ?h2_2003⟩) (by assumption) ?r2_2003
    case h2_2003 => intro w hSw; (try dsimp only at hSw); go_simp; try with_reducible rfl
    try simp only [Act.put, List.setIfInBounds_toArray, List.set_cons_zero, List.set_cons_succ]
    refine wpAnyH_take (i := 3) (v := ?v3_2004) rfl (by kernel_rfl) (by kernel_rfl) (by kernel_rfl) (fun _ _ _ h => h) (Or.inl ⟨by rfl, ?h3_2004⟩) (by assumption) ?r3_2004
    case h3_2004 => intro w hSw; (try dsimp only at hSw); go_simp; try with_reducible rfl
    try simp only [Act.put, List.setIfInBounds_toArray, List.set_cons_zero, List.set_cons_succ]
    refine wpAnyH_take (i := 5) (v := ?v5_2005) rfl (by kernel_rfl) (by kernel_rfl) (by kernel_rfl) (fun _ _ _ h => h) (Or.inl ⟨by rfl, ?h5_2005⟩) (by assumption) ?r5_2005
    case h5_2005 => intro w hSw; (try dsimp only at hSw); go_simp; try with_reducible rfl
    try simp only [Act.put, List.setIfInBounds_toArray, List.set_cons_zero, List.set_cons_succ]
    refine wpAnyH_take (i := 6) (v := ?v6_2006) rfl (by kernel_rfl) (by kernel_rfl) (by kernel_rfl) (fun _ _ _ h => h) (Or.inl ⟨by rfl, ?h6_2006⟩) (by assumption) ?r6_2006
    case h6_2006 => intro w hSw; (try dsimp only at hSw); go_simp; try with_reducible rfl
    try simp only [Act.put, List.setIfInBounds_toArray, List.set_cons_zero, List.set_cons_succ]
    refine wpAnyH_take (i := 7) (v := ?v7_2007) rfl (by kernel_rfl) (by kernel_rfl) (by kernel_rfl) (fun _ _ _ h => h) (Or.inl ⟨by rfl, ?h7_2007⟩) (by assumption) ?r7_2007
    case h7_2007 => intro w hSw; (try dsimp only at hSw); go_simp; try with_reducible rfl
    try simp only [Act.put, List.setIfInBounds_toArray, List.set_cons_zero, List.set_cons_succ]
    refine wpAnyH_take (i := 8) (v := ?v8_2008) rfl (by kernel_rfl) (by kernel_rfl) (by kernel_rfl) (fun _ _ _ h => h) (Or.inl ⟨by rfl, ?h8_2008⟩) (by assumption) ?r8_2008
    case h8_2008 => intro w hSw; (try dsimp only at hSw); go_simp; try with_reducible rfl
    try simp only [Act.put, List.setIfInBounds_toArray, List.set_cons_zero, List.set_cons_succ]
    refine wpAnyH_take (i := 9) (v := ?v9_2009) rfl (by kernel_rfl) (by kernel_rfl) (by kernel_rfl) (fun _ _ _ h => h) (Or.inl ⟨by rfl, ?h9_2009⟩) (by assumption) ?r9_2009
    case h9_2009 => intro w hSw; (try dsimp only at hSw); go_simp; try with_reducible rfl
    try simp only [Act.put, List.setIfInBounds_toArray, List.set_cons_zero, List.set_cons_succ]
    refine wpAnyH_take (i := 10) (v := ?v10_2010) rfl (by kernel_rfl) (by kernel_rfl) (by kernel_rfl) (fun _ _ _ h => h) (Or.inl ⟨by rfl, ?h10_2010⟩) (by assumption) ?r10_2010
    case h10_2010 => intro w hSw; (try dsimp only at hSw); go_simp; try with_reducible rfl
    try simp only [Act.put, List.setIfInBounds_toArray, List.set_cons_zero, List.set_cons_succ]
    refine wpAnyH_take (i := 11) (v := ?v11_2011) rfl (by kernel_rfl) (by kernel_rfl) (by kernel_rfl) (fun _ _ _ h => h) (Or.inl ⟨by rfl, ?h11_2011⟩) (by assumption) ?r11_2011
    case h11_2011 => intro w hSw; (try dsimp only at hSw); go_simp; try with_reducible rfl
    try simp only [Act.put, List.setIfInBounds_toArray, List.set_cons_zero, List.set_cons_succ]
    refine wpAnyH_take (i := 12) (v := ?v12_2012) rfl (by kernel_rfl) (by kernel_rfl) (by kernel_rfl) (fun _ _ _ h => h) (Or.inl ⟨by rfl, ?h12_2012⟩) (by assumption) ?r12_2012
    case h12_2012 => intro w hSw; (try dsimp only at hSw); go_simp; try with_reducible rfl
    try simp only [Act.put, List.setIfInBounds_toArray, List.set_cons_zero, List.set_cons_succ]
    refine wpAnyH_take (i := 13) (v := ?v13_2013) rfl (by kernel_rfl) (by kernel_rfl) (by kernel_rfl) (fun _ _ _ h => h) (Or.inl ⟨by rfl, ?h13_2013⟩) (by assumption) ?r13_2013
    case h13_2013 => intro w hSw; (try dsimp only at hSw); go_simp; try with_reducible rfl
    try simp only [Act.put, List.setIfInBounds_toArray, List.set_cons_zero, List.set_cons_succ]
    refine wpAnyH_take (i := 14) (v := ?v14_2014) rfl (by kernel_rfl) (by kernel_rfl) (by kernel_rfl) (fun _ _ _ h => h) (Or.inl ⟨by rfl, ?h14_2014⟩) (by assumption) ?r14_2014
    case h14_2014 => intro w hSw; (try dsimp only at hSw); go_simp; try with_reducible rfl
    try simp only [Act.put, List.setIfInBounds_toArray, List.set_cons_zero, List.set_cons_succ]
    refine wpAnyH_take (i := 15) (v := ?v15_2015) rfl (by kernel_rfl) (by kernel_rfl) (by kernel_rfl) (fun _ _ _ h => h) (Or.inl ⟨by rfl, ?h15_2015⟩) (by assumption) ?r15_2015
    case h15_2015 => intro w hSw; (try dsimp only at hSw); go_simp; try with_reducible rfl
    try simp only [Act.put, List.setIfInBounds_toArray, List.set_cons_zero, List.set_cons_succ]
    refine wpAnyH_take (i := 16) (v := ?v16_2016) rfl (by kernel_rfl) (by kernel_rfl) (by kernel_rfl) (fun _ _ _ h => h) (Or.inl ⟨by rfl, ?h16_2016⟩) (by assumption) ?r16_2016
    case h16_2016 => intro w hSw; (try dsimp only at hSw); go_simp; try with_reducible rfl
    try simp only [Act.put, List.setIfInBounds_toArray, List.set_cons_zero, List.set_cons_succ]
    refine wpAnyH_take (i := 17) (v := ?v17_2017) rfl (by kernel_rfl) (by kernel_rfl) (by kernel_rfl) (fun _ _ _ h => h) (Or.inl ⟨by rfl, ?h17_2017⟩) (by assumption) ?r17_2017
    case h17_2017 => intro w hSw; (try dsimp only at hSw); go_simp; try with_reducible rfl
    try simp only [Act.put, List.setIfInBounds_toArray, List.set_cons_zero, List.set_cons_succ]
    refine wpAnyH_ready (rs := [4, 18]) (by kernel_rfl) (by simp) ?_
    refine AllReadyH.cons (o := ?o4_2018) ?ho4_2018 (fun KK hKK => ?st4_2018) ?mo4_2018
    case ho4_2018 => (simp only [List.getElem?_toArray, List.getElem?_cons_succ, List.getElem?_cons_zero]; rfl)
    case st4_2018 =>
      go_simp
      refine hKK.out _ _ ?_ (fun hHeld2 => ?_)
      · (try dsimp only)
        first | with_reducible exact HA9 | go_keep
      clear hKK KK hHeld
      have hHeld := hHeld2
      clear hHeld2
      try simp only [Act.put, List.setIfInBounds_toArray, List.set_cons_zero, List.set_cons_succ]
      refine wpAnyH_ready (rs := [18]) (by kernel_rfl) (by simp) ?_
      refine AllReadyH.cons (o := ?o18_2019) ?ho18_2019 (fun KK hKK => ?st18_2019) ?mo18_2019
      case ho18_2019 => (simp only [List.getElem?_toArray, List.getElem?_cons_succ, List.getElem?_cons_zero]; rfl)
      case st18_2019 =>
        go_simp
        refine hKK.out _ _ ?_ (fun hHeld2 => ?_)
        · (try dsimp only)
          first | with_reducible exact HA9 | go_keep
        clear hKK KK hHeld
        have hHeld := hHeld2
        clear hHeld2
        try simp only [Act.put, List.setIfInBounds_toArray, List.set_cons_zero, List.set_cons_succ]
        refine wpAnyH_ready (rs := [19]) (by kernel_rfl) (by simp) ?_
        refine AllReadyH.cons (o := ?o19_2020) ?ho19_2020 (fun KK hKK => ?st19_2020) ?mo19_2020
        case ho19_2020 => (simp only [List.getElem?_toArray, List.getElem?_cons_succ, List.getElem?_cons_zero]; rfl)
        case st19_2020 =>
          (refine step_append_own _ rfl (.tmp 76) (.tmp 90) _ rfl base 116 j0 _ 4 40 Tryd.underlying39 hj0 hj1 hj2 hj3 rfl (by decide) (.slice A2 S.bs.length c2x) S.bs.length (S.bs.flatMap Bid.cells) rfl (by first | exact own_below (R1.out.o2.alloc _) ((Below.refl _ _).drew) | exact (own_below R1.out.o2 ((Below.refl _ _).drew)).alloc _ | exact R1.out.o2.alloc _) ⟨wn.heap.size, 0, none⟩ 1 1 [.string a1, .int .i64 y0, .int .i64 y1, .int .i64 y2] rfl rfl (cells_new wn _ _) (by intro u hu; simp at hu; (first | (rcases hu with rfl | rfl | rfl <;> rfl) | (rcases hu with rfl | rfl | rfl | rfl <;> rfl) | (rcases hu with rfl | rfl | rfl | rfl | rfl <;> rfl))) (by have := HL.out; unfold maxLen; omega) (by have := HL.out; omega) (by have := R1.out.le; simp; omega) ?_; intro v' w2 hown hgr _; obtain ⟨A5, c5, rfl⟩ := Gn.own_form hown; have O5 := Lib.hid hown; have G5 := Lib.hid hgr; have BW := Lib.hid (bw_of (wn := wn) hgr (by first | exact (below_new wn _).drew | exact (below_of_drew wn _) | exact below_new wn _)); have RW := Lib.hid (R1.out.keep BW.out); have KK := after_app BW.out R1.out.o2 HB1.out HOI.out (by decide) (by decide) hgr; have HA9 := HKP.out w2 KK.1 KK.2; have SK : Hid (∀ k cs, Blk w k 9 cs → Blk w2 k 9 cs) := (fun k cs hk => ((hk.below' ED2.out).below' BW.out).grown hgr (fun e => own_apart R1.out.o2 (hk.below' ED2.out) (by decide) e.symm)); have KG := Lib.hid (RW.out.k.grown hgr (fun e => own_apart RW.out.o2 RW.out.k (by decide) e.symm)); have hg2 := KG.out.c4; have hgl2 := KG.out.lt; have B5 := Lib.hid (((below_mono ED2.out hbase).trans (BW.out.mono (Nat.le_trans hbase ED2.out.size))).grown hgr (Nat.le_trans (Nat.le_trans hbase ED2.out.size) BW.out.size) (fun q hq => (R1.out.o2.lt q hq).1)); clear hown hgr KK)
          refine hKK.out _ _ ?_ (fun hHeld2 => ?_)
          · (try dsimp only)
            first | with_reducible exact HA9 | go_keep
          clear hKK KK hHeld
          have hHeld := hHeld2
          clear hHeld2
          try simp only [Act.put, List.setIfInBounds_toArray, List.set_cons_zero, List.set_cons_succ]
          refine wpAnyH_take (i := 20) (v := ?v20_2021) rfl (by kernel_rfl) (by kernel_rfl) (by kernel_rfl) (fun _ _ _ h => h) (Or.inl ⟨by rfl, ?h20_2021⟩) (by assumption) ?r20_2021
          case h20_2021 => intro w hSw; (try dsimp only at hSw); go_simp; try with_reducible rfl
          try simp only [Act.put, List.setIfInBounds_toArray, List.set_cons_zero, List.set_cons_succ]
          refine wpAnyH_take (i := 21) (v := ?v21_2022) rfl (by kernel_rfl) (by kernel_rfl) (by kernel_rfl) (fun _ _ _ h => h) (Or.inl ⟨by rfl, ?h21_2022⟩) (by assumption) ?r21_2022
          case h21_2022 => intro w hSw; (try dsimp only at hSw); go_simp; try with_reducible rfl
          try simp only [Act.put, List.setIfInBounds_toArray, List.set_cons_zero, List.set_cons_succ]
          refine wpAnyH_ready (rs := [22]) (by kernel_rfl) (by simp) ?_
          refine AllReadyH.cons (o := ?o22_2023) ?ho22_2023 (fun KK hKK => ?st22_2023) ?mo22_2023
          case ho22_2023 => (simp only [List.getElem?_toArray, List.getElem?_cons_succ, List.getElem?_cons_zero]; rfl)
          case st22_2023 =>
            go_simp
            refine hKK.out _ _ ?_ (fun hHeld2 => ?_)
            · (try dsimp only)
              first | with_reducible exact HA9 | go_keep
            clear hKK KK hHeld
            have hHeld := hHeld2
            clear hHeld2
            try simp only [Act.put, List.setIfInBounds_toArray, List.set_cons_zero, List.set_cons_succ]
            refine wpAnyH_done (by kernel_rfl) ?_ _
            have R2 := Lib.hid (rd_2 RW.out ⟨a1, y0, y1, y2⟩ G5.out O5.out)
            have B6 := Lib.hid (B5.out.setCell (p := ⟨gs, 1, none⟩) (show base ≤ gs from R1.out.le) (.slice A5 (S.bs.length + 1) c5))
            go_wp2_with fail
            try go_step3
            go_wp2_with fail
            try dsimp only [Exit.jump, Exit.noGoto, Exit.inBlock, Exit.then]
            go_ret
            exact ⟨by rw [HV4.out]; rfl, B6.out, fun _ => by rw [stepW_2 HH.out.1 HH.out.2]; rw [← HY0.out, ← HY1.out, ← HY2.out]; exact ⟨_, _, _, _, _, _, _, _, R2.out⟩, fun k cs hk => (SK.out k cs hk).far (p := ⟨gs, 1, none⟩) (fun e => Blk.apart (hk.below' ED2.out) R1.out.k (by decide) e) _⟩
          case mo22_2023 =>
            exact AllReadyH.nil
        case mo19_2020 =>
          exact AllReadyH.nil
      case mo18_2019 =>
        exact AllReadyH.nil
    case mo4_2018 =>
      refine AllReadyH.cons (o := ?o18_2024) ?ho18_2024 (fun KK hKK => ?st18_2024) ?mo18_2024
      case ho18_2024 => (simp only [List.getElem?_toArray, List.getElem?_cons_succ, List.getElem?_cons_zero]; rfl)
      case st18_2024 =>
        go_simp
        refine hKK.out _ _ ?_ (fun hHeld2 => ?_)
        · (try dsimp only)
          first | with_reducible exact HA9 | go_keep
        clear hKK KK hHeld
        have hHeld := hHeld2
        clear hHeld2
        try simp only [Act.put, List.setIfInBounds_toArray, List.set_cons_zero, List.set_cons_succ]
        refine wpAnyH_ready (rs := [4]) (by kernel_rfl) (by simp) ?_
        refine AllReadyH.cons (o := ?o4_2025) ?ho4_2025 (fun KK hKK => ?st4_2025) ?mo4_2025
        case ho4_2025 => (simp only [List.getElem?_toArray, List.getElem?_cons_succ, List.getElem?_cons_zero]; rfl)
        case st4_2025 =>
          go_simp
          refine hKK.out _ _ ?_ (fun hHeld2 => ?_)
          · (try dsimp only)
            first | with_reducible exact HA9 | go_keep
          clear hKK KK hHeld
          have hHeld := hHeld2
          clear hHeld2
          try simp only [Act.put, List.setIfInBounds_toArray, List.set_cons_zero, List.set_cons_succ]
          refine wpAnyH_ready (rs := [19]) (by kernel_rfl) (by simp) ?_
          refine AllReadyH.cons (o := ?o19_2026) ?ho19_2026 (fun KK hKK => ?st19_2026) ?mo19_2026
          case ho19_2026 => (simp only [List.getElem?_toArray, List.getElem?_cons_succ, List.getElem?_cons_zero]; rfl)
          case st19_2026 =>
            (refine step_append_own _ rfl (.tmp 76) (.tmp 90) _ rfl base 116 j0 _ 4 40 Tryd.underlying39 hj0 hj1 hj2 hj3 rfl (by decide) (.slice A2 S.bs.length c2x) S.bs.length (S.bs.flatMap Bid.cells) rfl (by first | exact own_below (R1.out.o2.alloc _) ((Below.refl _ _).drew) | exact (own_below R1.out.o2 ((Below.refl _ _).drew)).alloc _ | exact R1.out.o2.alloc _) ⟨wn.heap.size, 0, none⟩ 1 1 [.string a1, .int .i64 y0, .int .i64 y1, .int .i64 y2] rfl rfl (cells_new wn _ _) (by intro u hu; simp at hu; (first | (rcases hu with rfl | rfl | rfl <;> rfl) | (rcases hu with rfl | rfl | rfl | rfl <;> rfl) | (rcases hu with rfl | rfl | rfl | rfl | rfl <;> rfl))) (by have := HL.out; unfold maxLen; omega) (by have := HL.out; omega) (by have := R1.out.le; simp; omega) ?_; intro v' w2 hown hgr _; obtain ⟨A5, c5, rfl⟩ := Gn.own_form hown; have O5 := Lib.hid hown; have G5 := Lib.hid hgr; have BW := Lib.hid (bw_of (wn := wn) hgr (by first | exact (below_new wn _).drew | exact (below_of_drew wn _) | exact below_new wn _)); have RW := Lib.hid (R1.out.keep BW.out); have KK := after_app BW.out R1.out.o2 HB1.out HOI.out (by decide) (by decide) hgr; have HA9 := HKP.out w2 KK.1 KK.2; have SK : Hid (∀ k cs, Blk w k 9 cs → Blk w2 k 9 cs) := (fun k cs hk => ((hk.below' ED2.out).below' BW.out).grown hgr (fun e => own_apart R1.out.o2 (hk.below' ED2.out) (by decide) e.symm)); have KG := Lib.hid (RW.out.k.grown hgr (fun e => own_apart RW.out.o2 RW.out.k (by decide) e.symm)); have hg2 := KG.out.c4; have hgl2 := KG.out.lt; have B5 := Lib.hid (((below_mono ED2.out hbase).trans (BW.out.mono (Nat.le_trans hbase ED2.out.size))).grown hgr (Nat.le_trans (Nat.le_trans hbase ED2.out.size) BW.out.size) (fun q hq => (R1.out.o2.lt q hq).1)); clear hown hgr KK)
            refine hKK.out _ _ ?_ (fun hHeld2 => ?_)
            · (try dsimp only)
              first | with_reducible exact HA9 | go_keep
            clear hKK KK hHeld
            have hHeld := hHeld2
            clear hHeld2
            try simp only [Act.put, List.setIfInBounds_toArray, List.set_cons_zero, List.set_cons_succ]
            refine wpAnyH_take (i := 20) (v := ?v20_2027) rfl (by kernel_rfl) (by kernel_rfl) (by kernel_rfl) (fun _ _ _ h => h) (Or.inl ⟨by rfl, ?h20_2027⟩) (by assumption) ?r20_2027
            case h20_2027 => intro w hSw; (try dsimp only at hSw); go_simp; try with_reducible rfl
            try simp only [Act.put, List.setIfInBounds_toArray, List.set_cons_zero, List.set_cons_succ]
            refine wpAnyH_take (i := 21) (v := ?v21_2028) rfl (by kernel_rfl) (by kernel_rfl) (by kernel_rfl) (fun _ _ _ h => h) (Or.inl ⟨by rfl, ?h21_2028⟩) (by assumption) ?r21_2028
            case h21_2028 => intro w hSw; (try dsimp only at hSw); go_simp; try with_reducible rfl
            try simp only [Act.put, List.setIfInBounds_toArray, List.set_cons_zero, List.set_cons_succ]
            refine wpAnyH_ready (rs := [22]) (by kernel_rfl) (by simp) ?_
            refine AllReadyH.cons (o := ?o22_2029) ?ho22_2029 (fun KK hKK => ?st22_2029) ?mo22_2029
            case ho22_2029 => (simp only [List.getElem?_toArray, List.getElem?_cons_succ, List.getElem?_cons_zero]; rfl)
            case st22_2029 =>
              go_simp
              refine hKK.out _ _ ?_ (fun hHeld2 => ?_)
              · (try dsimp only)
                first | with_reducible exact HA9 | go_keep
              clear hKK KK hHeld
              have hHeld := hHeld2
              clear hHeld2
              try simp only [Act.put, List.setIfInBounds_toArray, List.set_cons_zero, List.set_cons_succ]
              refine wpAnyH_done (by kernel_rfl) ?_ _
              have R2 := Lib.hid (rd_2 RW.out ⟨a1, y0, y1, y2⟩ G5.out O5.out)
              have B6 := Lib.hid (B5.out.setCell (p := ⟨gs, 1, none⟩) (show base ≤ gs from R1.out.le) (.slice A5 (S.bs.length + 1) c5))
              go_wp2_with fail
              try go_step3
              go_wp2_with fail
              try dsimp only [Exit.jump, Exit.noGoto, Exit.inBlock, Exit.then]
              go_ret
              exact ⟨by rw [HV4.out]; rfl, B6.out, fun _ => by rw [stepW_2 HH.out.1 HH.out.2]; rw [← HY0.out, ← HY1.out, ← HY2.out]; exact ⟨_, _, _, _, _, _, _, _, R2.out⟩, fun k cs hk => (SK.out k cs hk).far (p := ⟨gs, 1, none⟩) (fun e => Blk.apart (hk.below' ED2.out) R1.out.k (by decide) e) _⟩
            case mo22_2029 =>
              exact AllReadyH.nil
          case mo19_2026 =>
            exact AllReadyH.nil
        case mo4_2025 =>
          exact AllReadyH.nil
      case mo18_2024 =>
        exact AllReadyH.nil
  | false =>
  cases h3 : eqB w0 wCap with
  | true =>
    obtain ⟨j0, hj0, hj1, hj2, hj3⟩ := info_parts cap_info
    have HWD : Hid (widthW w0 = 4) := by show _ = _; unfold widthW; rw [h1, h2, h3]; rfl
    have CWD := Lib.hid (width_any w0 w)
    rw [HWD.out] at CWD
    by_cases hlen : ws.length = 4
    case neg =>
      have t2 : (((4 : Nat) : Int) == (ws.length : Int)) = false := beq_eq_false_iff_ne.2 (by omega)
      have t3 : ((4 : Int) == (ws.length : Int)) = false := beq_eq_false_iff_ne.2 (by omega)
      have HV := Lib.hid (L2.out (by rw [HW0.out, HWD.out]; decide) (by rw [HW0.out, HWD.out]; exact hlen))
      clear hrow hw0 L1 L2 L3 L4 h1 h2 h3 hlen
      go_enter Tryd.func87, Tryd.ntmps87
      go_wp2_with fail
      refine wp_scope_fwd 0 rfl ?_
      go_wp2_with fail
      refine CWD.out.mono ?_
      rintro e w1 ⟨rfl, rfl⟩
      go_wp2_with fail
      go_step3
      try go_big_open
      try dsimp only [Exit.then, Exit.inBlock, Exit.jump]
      refine ⟨rfl, ?_⟩
      go_wp2_with fail
      try go_step3
      go_wp2_with fail
      try dsimp only [Exit.noGoto, Exit.inBlock, Exit.then]
      go_ret
      exact ⟨by rw [HV.out]; rfl, Below.refl _ _, (fun e => absurd (HV.out.symm.trans e) (by decide)), fun _ _ h => h⟩
    obtain ⟨a0, a1, a2, a3, rfl⟩ : ∃ a0 a1 a2 a3 : ByteArray, ws = [a0, a1, a2, a3] := len4 hlen
    clear hlen
    obtain rfl : w0 = a0 := hw0
    have hc1 := (hrow 1 _ rfl)
    rw [Nat.zero_add] at hc1
    have L3 := Lib.hid (fun h => L3.out (by rw [HW0.out, HWD.out]; decide) (by rw [HW0.out, HWD.out]; rfl) h)
    have L4 := Lib.hid (fun h => L4.out (by rw [HW0.out, HWD.out]; decide) (by rw [HW0.out, HWD.out]; rfl) h)
    have HCW : Hid (∀ W, Below w.heap.size w W → W.cell? ⟨b, 0, none⟩ = some (.string w0) ∧ W.cell? ⟨b, 1, none⟩ = some (.string a1)) := fun W bw => ⟨(bw.cell (p := ⟨b, 0, none⟩) hb).trans hc0, (bw.cell (p := ⟨b, 1, none⟩) hb).trans hc1⟩
    have CNM := Lib.hid (fun W (bw : Below w.heap.size w W) => named_any S _ _ _ _ w0 a1 W ((R0.out.keep bw).setW HL.out HPN.out HBN.out) (by rw [HWD.out]; decide) (Nat.le_trans (hs a1 (by simp)) (by decide)))
    have CNU := Lib.hid (fun W (bw : Below w.heap.size w W) => numbers_any [a2, a3] (.slice (some ⟨b, 2, none⟩) 2 2) W (str_tail (ws := [w0, a1, a2, a3]) hb hrow k1 k2 (by simp) W bw) (by simp) (fun x hx => hs x (by simp at hx ⊢; simp [hx])))
    have h1l := h1
    rw [lit_p] at h1l
    have h2l := h2
    rw [lit_b] at h2l
    have h3l := h3
    rw [lit_c] at h3l
    have hg := R0.out.k.c4
    have hgl := R0.out.k.lt
    have hcw := HCW.out _ (Below.refl _ _)
    have HH := Lib.hid (show eqB w0 wProd = false ∧ eqB w0 wBid = false ∧ eqB w0 wCap = true from ⟨h1, h2, h3⟩)
    clear h1 h2 h3 L1 L2 hs hrow hc0 hc1 k1
    go_enter Tryd.func87, Tryd.ntmps87
    go_wp2_with fail
    refine wp_scope_fwd 0 rfl ?_
    go_wp2_with fail
    refine CWD.out.mono ?_
    rintro e w1 ⟨rfl, rfl⟩
    go_wp2_with fail
    have ED := Lib.hid ((Below.refl w.heap.size w).drew)
    have HKS : Hid (∀ W, Below w.heap.size w W → ((W.cell? ⟨gs, 0, none⟩ = some (.slice A1 S.ps.length c1) ∧ W.cell? ⟨gs, 1, none⟩ = some (.slice A2 S.bs.length c2x) ∧ W.cell? ⟨gs, 2, none⟩ = some (.slice A3 S.cs.length c3x) ∧ W.cell? ⟨gs, 3, none⟩ = some (.slice A4 S.ad.length c4x)) ∧ W.cell? ⟨b, 0, none⟩ = some (.string w0) ∧ W.cell? ⟨b, 1, none⟩ = some (.string a1))) := fun W bw => ⟨⟨(R0.out.k.below' bw).cell 0, (R0.out.k.below' bw).cell 1, (R0.out.k.below' bw).cell 2, (R0.out.k.below' bw).cell 3⟩, HCW.out W bw⟩
    go_region_held3 (fun W => (W.cell? ⟨gs, 0, none⟩ = some (.slice A1 S.ps.length c1) ∧ W.cell? ⟨gs, 1, none⟩ = some (.slice A2 S.bs.length c2x) ∧ W.cell? ⟨gs, 2, none⟩ = some (.slice A3 S.cs.length c3x) ∧ W.cell? ⟨gs, 3, none⟩ = some (.slice A4 S.ad.length c4x)) ∧ W.cell? ⟨b, 0, none⟩ = some (.string w0) ∧ W.cell? ⟨b, 1, none⟩ = some (.string a1)) (first | with_reducible exact HKS.out _ ED.out | go_keep) (first | (go_at_call 112; with_reducible refine (CNM.out _ ED.out).mono ?_; rintro e w9 ⟨ix, rfl, HIX0, dd⟩; have HIX := Lib.hid HIX0; replace ED := Lib.hid (chain0 ED.out dd); clear dd HIX0))
    have hbase : base ≤ w.heap.size := by have h1 := R0.out.le; have h2 := R0.out.k.lt; omega
    by_cases hne : nameE S w0 a1 = 0
    case neg =>
      have t5 : (nameE S w0 a1 != 0) = true := by simpa using hne
      have HV := Lib.hid (L3.out hne)
      have HQ : Hid (nameE S w0 a1 ≠ 0) := hne
      clear hne
      go_wp2_with fail
      go_step3
      try go_big_open
      try dsimp only [Exit.then, Exit.inBlock, Exit.jump]
      refine ⟨rfl, ?_⟩
      go_wp2_with fail
      try go_step3
      go_wp2_with fail
      try dsimp only [Exit.noGoto, Exit.inBlock, Exit.then]
      go_ret
      exact ⟨by rw [HV.out]; rfl, below_mono ED.out hbase, (fun e => absurd (HV.out.symm.trans e) HQ.out), fun _ _ h => h.below' ED.out⟩
    have t5 : (nameE S w0 a1 != 0) = false := by rw [hne]; rfl
    have HV4 := Lib.hid (L4.out hne)
    have HIXV := Lib.hid (HIX.out hne HH.out.1 HH.out.2.1)
    clear hne L3 L4 HIX
    go_wp2_with fail
    refine (CNU.out _ ED.out).mono ?_
    rintro e wn ⟨A6, n6, c6, rfl, HNI0, dd⟩
    have HNI := Lib.hid HNI0
    have hed9 := ED.out.size
    have ED2 := Lib.hid (chain0 ED.out dd)
    clear dd HNI0
    by_cases hnz : numsE [a2, a3] = 0
    case neg =>
      have t6 : (numsE [a2, a3] != 0) = true := by simpa using hnz
      have HQ : Hid (numsE [a2, a3] ≠ 0) := hnz
      clear hnz
      go_wp2_with fail
      go_step3
      try go_big_open
      try dsimp only [Exit.then, Exit.inBlock, Exit.jump]
      refine ⟨rfl, ?_⟩
      go_wp2_with fail
      try go_step3
      go_wp2_with fail
      try dsimp only [Exit.noGoto, Exit.inBlock, Exit.then]
      go_ret
      exact ⟨by rw [HV4.out]; rfl, below_mono ED2.out hbase, (fun e => absurd (HV4.out.symm.trans e) HQ.out), fun _ _ h => h.below' ED2.out⟩
    have t6 : (numsE [a2, a3] != 0) = false := by rw [hnz]; rfl
    obtain ⟨hn6, hoi⟩ := HNI.out hnz
    have HZ : Hid (lineE S [w0, a1, a2, a3] = 0) := HV4.out.trans hnz
    clear hnz HNI
    obtain rfl : n6 = 2 := hn6
    skip
    obtain ⟨g6, c6x, e6⟩ := own_pos hoi (by decide)
    injection e6 with e61 e62 e63
    subst e61 e63
    have HOI := Lib.hid hoi
    have ho6 := fun (j : Nat) (hj : j < 2) => hoi.cellAt j (by omega)
    have n0 : wn.cell? ⟨g6, 0, none⟩ = some (.int .i64 (numV a2)) := ho6 0 (by decide)
    have n1 : wn.cell? ⟨g6, 1, none⟩ = some (.int .i64 (numV a3)) := ho6 1 (by decide)
    have hg6 := (hoi.lt g6 rfl).2
    have R1 := Lib.hid (R0.out.keep ED2.out)
    have HB1 := Lib.hid (HBW.out.below' ED2.out)
    have hwb := HB1.out.lt
    have hcb : wn.cell? ⟨b, 1, none⟩ = some (.string a1) := by rw [HB1.out.cell 1]; rfl
    have hcb0 : wn.cell? ⟨b, 0, none⟩ = some (.string w0) := by rw [HB1.out.cell 0]; rfl
    have hgs4 := R1.out.k.c4
    have hgsl := R1.out.k.lt
    have hgn : gs ≠ b := hgb.out
    have hgi : gs ≠ g6 := fun e => own_apart HOI.out R1.out.k (by decide) (by rw [e]; rfl)
    clear hoi ho6 hg hgl hcw
    obtain ⟨y0, hy0_⟩ : ∃ y, y = numV a2 := ⟨_, rfl⟩
    rw [← hy0_] at n0
    have HY0 := Lib.hid hy0_
    clear hy0_
    obtain ⟨y1, hy1_⟩ : ∃ y, y = numV a3 := ⟨_, rfl⟩
    rw [← hy1_] at n1
    have HY1 := Lib.hid hy1_
    clear hy1_
    go_wp2_with fail
    have HKP : Hid (∀ W, Blk W b 9 (([w0, a1, a2, a3] : List ByteArray).map Value.string).toArray → W.ownsRow w9.heap.size 3 1 (.slice (some ⟨g6, 0, none⟩) 2 c6) 2 (intsC ([a2, a3].map numV)) → W.cell? ⟨g6, 0, none⟩ = some (.int .i64 y0) ∧ W.cell? ⟨g6, 1, none⟩ = some (.int .i64 y1)) := fun W k1 k2 => ⟨by rw [HY0.out]; exact k2.cellAt 0 (by decide), by rw [HY1.out]; exact k2.cellAt 1 (by decide)⟩
    refine wp_region_held_drew (S := fun W => W.cell? ⟨g6, 0, none⟩ = some (.int .i64 y0) ∧ W.cell? ⟨g6, 1, none⟩ = some (.int .i64 y1)) (by kernel_rfl) ?_ (fun hHeld => ?_)
    · (try dsimp only)
      go_keep
    refine wpAnyH_take (i := 0) (v := ?v0_3001) rfl (by kernel_rfl) (by kernel_rfl) (by kernel_rfl) (fun _ _ _ h => h) (Or.inl ⟨by rfl, ?h0_3001⟩) (by assumption) ?r0_3001
    case h0_3001 => intro w hSw; (try dsimp only at hSw); go_simp; try with_reducible rfl
    try simp only [Act.put, List.setIfInBounds_toArray, List.set_cons_zero, List.set_cons_succ]
    refine wpAnyH_take (i := 1) (v := ?v1_3002) rfl (by kernel_rfl) (by kernel_rfl) (by kernel_rfl) (fun _ _ _ h => h) (Or.inl ⟨by rfl, ?h1_3002⟩) (by assumption) ?r1_3002
    case h1_3002 => intro w hSw; (try dsimp only at hSw); go_simp; try with_reducible rfl
    try simp only [Act.put, List.setIfInBounds_toArray, List.set_cons_zero, List.set_cons_succ]
    refine wpAnyH_take (i := 2) (v := ?v2_3003) rfl (by kernel_rfl) (by kernel_rfl) (by kernel_rfl) (fun _ _ _ h => h) (Or.inl ⟨by rfl, ?h2_3003⟩) (by assumption) ?r2_3003
    case h2_3003 => intro w hSw; (try dsimp only at hSw); go_simp; try with_reducible rfl
    try simp only [Act.put, List.setIfInBounds_toArray, List.set_cons_zero, List.set_cons_succ]
    refine wpAnyH_take (i := 3) (v := ?v3_3004) rfl (by kernel_rfl) (by kernel_rfl) (by kernel_rfl) (fun _ _ _ h => h) (Or.inl ⟨by rfl, ?h3_3004⟩) (by assumption) ?r3_3004
    case h3_3004 => intro w hSw; (try dsimp only at hSw); go_simp; try with_reducible rfl
    try simp only [Act.put, List.setIfInBounds_toArray, List.set_cons_zero, List.set_cons_succ]
    refine wpAnyH_take (i := 5) (v := ?v5_3005) rfl (by kernel_rfl) (by kernel_rfl) (by kernel_rfl) (fun _ _ _ h => h) (Or.inl ⟨by rfl, ?h5_3005⟩) (by assumption) ?r5_3005
    case h5_3005 => intro w hSw; (try dsimp only at hSw); go_simp; try with_reducible rfl
    try simp only [Act.put, List.setIfInBounds_toArray, List.set_cons_zero, List.set_cons_succ]
    refine wpAnyH_take (i := 6) (v := ?v6_3006) rfl (by kernel_rfl) (by kernel_rfl) (by kernel_rfl) (fun _ _ _ h => h) (Or.inl ⟨by rfl, ?h6_3006⟩) (by assumption) ?r6_3006
    case h6_3006 => intro w hSw; (try dsimp only at hSw); go_simp; try with_reducible rfl
    try simp only [Act.put, List.setIfInBounds_toArray, List.set_cons_zero, List.set_cons_succ]
    refine wpAnyH_take (i := 7) (v := ?v7_3007) rfl (by kernel_rfl) (by kernel_rfl) (by kernel_rfl) (fun _ _ _ h => h) (Or.inl ⟨by rfl, ?h7_3007⟩) (by assumption) ?r7_3007
    case h7_3007 => intro w hSw; (try dsimp only at hSw); go_simp; try with_reducible rfl
    try simp only [Act.put, List.setIfInBounds_toArray, List.set_cons_zero, List.set_cons_succ]
    refine wpAnyH_take (i := 8) (v := ?v8_3008) rfl (by kernel_rfl) (by kernel_rfl) (by kernel_rfl) (fun _ _ _ h => h) (Or.inl ⟨by rfl, ?h8_3008⟩) (by assumption) ?r8_3008
    case h8_3008 => intro w hSw; (try dsimp only at hSw); go_simp; try with_reducible rfl
    try simp only [Act.put, List.setIfInBounds_toArray, List.set_cons_zero, List.set_cons_succ]
    refine wpAnyH_take (i := 9) (v := ?v9_3009) rfl (by kernel_rfl) (by kernel_rfl) (by kernel_rfl) (fun _ _ _ h => h) (Or.inl ⟨by rfl, ?h9_3009⟩) (by assumption) ?r9_3009
    case h9_3009 => intro w hSw; (try dsimp only at hSw); go_simp; try with_reducible rfl
    try simp only [Act.put, List.setIfInBounds_toArray, List.set_cons_zero, List.set_cons_succ]
    refine wpAnyH_take (i := 10) (v := ?v10_3010) rfl (by kernel_rfl) (by kernel_rfl) (by kernel_rfl) (fun _ _ _ h => h) (Or.inl ⟨by rfl, ?h10_3010⟩) (by assumption) ?r10_3010
    case h10_3010 => intro w hSw; (try dsimp only at hSw); go_simp; try with_reducible rfl
    try simp only [Act.put, List.setIfInBounds_toArray, List.set_cons_zero, List.set_cons_succ]
    refine wpAnyH_take (i := 11) (v := ?v11_3011) rfl (by kernel_rfl) (by kernel_rfl) (by kernel_rfl) (fun _ _ _ h => h) (Or.inl ⟨by rfl, ?h11_3011⟩) (by assumption) ?r11_3011
    case h11_3011 => intro w hSw; (try dsimp only at hSw); go_simp; try with_reducible rfl
    try simp only [Act.put, List.setIfInBounds_toArray, List.set_cons_zero, List.set_cons_succ]
    refine wpAnyH_take (i := 12) (v := ?v12_3012) rfl (by kernel_rfl) (by kernel_rfl) (by kernel_rfl) (fun _ _ _ h => h) (Or.inl ⟨by rfl, ?h12_3012⟩) (by assumption) ?r12_3012
    case h12_3012 => intro w hSw; (try dsimp only at hSw); go_simp; try with_reducible rfl
    try simp only [Act.put, List.setIfInBounds_toArray, List.set_cons_zero, List.set_cons_succ]
    refine wpAnyH_ready (rs := [4, 13]) (by kernel_rfl) (by simp) ?_
    refine AllReadyH.cons (o := ?o4_3013) ?ho4_3013 (fun KK hKK => ?st4_3013) ?mo4_3013
    case ho4_3013 => (simp only [List.getElem?_toArray, List.getElem?_cons_succ, List.getElem?_cons_zero]; rfl)
    case st4_3013 =>
      go_simp
      refine hKK.out _ _ ?_ (fun hHeld2 => ?_)
      · (try dsimp only)
        first | with_reducible exact HA9 | go_keep
      clear hKK KK hHeld
      have hHeld := hHeld2
      clear hHeld2
      try simp only [Act.put, List.setIfInBounds_toArray, List.set_cons_zero, List.set_cons_succ]
      refine wpAnyH_ready (rs := [13]) (by kernel_rfl) (by simp) ?_
      refine AllReadyH.cons (o := ?o13_3014) ?ho13_3014 (fun KK hKK => ?st13_3014) ?mo13_3014
      case ho13_3014 => (simp only [List.getElem?_toArray, List.getElem?_cons_succ, List.getElem?_cons_zero]; rfl)
      case st13_3014 =>
        go_simp
        refine hKK.out _ _ ?_ (fun hHeld2 => ?_)
        · (try dsimp only)
          first | with_reducible exact HA9 | go_keep
        clear hKK KK hHeld
        have hHeld := hHeld2
        clear hHeld2
        try simp only [Act.put, List.setIfInBounds_toArray, List.set_cons_zero, List.set_cons_succ]
        refine wpAnyH_ready (rs := [14]) (by kernel_rfl) (by simp) ?_
        refine AllReadyH.cons (o := ?o14_3015) ?ho14_3015 (fun KK hKK => ?st14_3015) ?mo14_3015
        case ho14_3015 => (simp only [List.getElem?_toArray, List.getElem?_cons_succ, List.getElem?_cons_zero]; rfl)
        case st14_3015 =>
          (refine step_append_own _ rfl (.tmp 100) (.tmp 109) _ rfl base 111 j0 _ 3 24 Tryd.underlying40 hj0 hj1 hj2 hj3 rfl (by decide) (.slice A3 S.cs.length c3x) S.cs.length (S.cs.flatMap Cp.cells) rfl (by first | exact own_below (R1.out.o3.alloc _) ((Below.refl _ _).drew) | exact (own_below R1.out.o3 ((Below.refl _ _).drew)).alloc _ | exact R1.out.o3.alloc _) ⟨wn.heap.size, 0, none⟩ 1 1 [.int .i64 ix, .int .i64 y0, .int .i64 y1] rfl rfl (cells_new wn _ _) (by intro u hu; simp at hu; (first | (rcases hu with rfl | rfl | rfl <;> rfl) | (rcases hu with rfl | rfl | rfl | rfl <;> rfl) | (rcases hu with rfl | rfl | rfl | rfl | rfl <;> rfl))) (by have := HL.out; unfold maxLen; omega) (by have := HL.out; omega) (by have := R1.out.le; simp; omega) ?_; intro v' w2 hown hgr _; obtain ⟨A5, c5, rfl⟩ := Gn.own_form hown; have O5 := Lib.hid hown; have G5 := Lib.hid hgr; have BW := Lib.hid (bw_of (wn := wn) hgr (by first | exact (below_new wn _).drew | exact (below_of_drew wn _) | exact below_new wn _)); have RW := Lib.hid (R1.out.keep BW.out); have KK := after_app BW.out R1.out.o3 HB1.out HOI.out (by decide) (by decide) hgr; have HA9 := HKP.out w2 KK.1 KK.2; have SK : Hid (∀ k cs, Blk w k 9 cs → Blk w2 k 9 cs) := (fun k cs hk => ((hk.below' ED2.out).below' BW.out).grown hgr (fun e => own_apart R1.out.o3 (hk.below' ED2.out) (by decide) e.symm)); have KG := Lib.hid (RW.out.k.grown hgr (fun e => own_apart RW.out.o3 RW.out.k (by decide) e.symm)); have hg2 := KG.out.c4; have hgl2 := KG.out.lt; have B5 := Lib.hid (((below_mono ED2.out hbase).trans (BW.out.mono (Nat.le_trans hbase ED2.out.size))).grown hgr (Nat.le_trans (Nat.le_trans hbase ED2.out.size) BW.out.size) (fun q hq => (R1.out.o3.lt q hq).1)); clear hown hgr KK)
          refine hKK.out _ _ ?_ (fun hHeld2 => ?_)
          · (try dsimp only)
            first | with_reducible exact HA9 | go_keep
          clear hKK KK hHeld
          have hHeld := hHeld2
          clear hHeld2
          try simp only [Act.put, List.setIfInBounds_toArray, List.set_cons_zero, List.set_cons_succ]
          refine wpAnyH_take (i := 15) (v := ?v15_3016) rfl (by kernel_rfl) (by kernel_rfl) (by kernel_rfl) (fun _ _ _ h => h) (Or.inl ⟨by rfl, ?h15_3016⟩) (by assumption) ?r15_3016
          case h15_3016 => intro w hSw; (try dsimp only at hSw); go_simp; try with_reducible rfl
          try simp only [Act.put, List.setIfInBounds_toArray, List.set_cons_zero, List.set_cons_succ]
          refine wpAnyH_take (i := 16) (v := ?v16_3017) rfl (by kernel_rfl) (by kernel_rfl) (by kernel_rfl) (fun _ _ _ h => h) (Or.inl ⟨by rfl, ?h16_3017⟩) (by assumption) ?r16_3017
          case h16_3017 => intro w hSw; (try dsimp only at hSw); go_simp; try with_reducible rfl
          try simp only [Act.put, List.setIfInBounds_toArray, List.set_cons_zero, List.set_cons_succ]
          refine wpAnyH_ready (rs := [17]) (by kernel_rfl) (by simp) ?_
          refine AllReadyH.cons (o := ?o17_3018) ?ho17_3018 (fun KK hKK => ?st17_3018) ?mo17_3018
          case ho17_3018 => (simp only [List.getElem?_toArray, List.getElem?_cons_succ, List.getElem?_cons_zero]; rfl)
          case st17_3018 =>
            go_simp
            refine hKK.out _ _ ?_ (fun hHeld2 => ?_)
            · (try dsimp only)
              first | with_reducible exact HA9 | go_keep
            clear hKK KK hHeld
            have hHeld := hHeld2
            clear hHeld2
            try simp only [Act.put, List.setIfInBounds_toArray, List.set_cons_zero, List.set_cons_succ]
            refine wpAnyH_done (by kernel_rfl) ?_ _
            have R2 := Lib.hid (rd_3 RW.out ⟨ix, y0, y1⟩ G5.out O5.out)
            have B6 := Lib.hid (B5.out.setCell (p := ⟨gs, 2, none⟩) (show base ≤ gs from R1.out.le) (.slice A5 (S.cs.length + 1) c5))
            go_wp2_with fail
            try go_step3
            go_wp2_with fail
            try dsimp only [Exit.jump, Exit.noGoto, Exit.inBlock, Exit.then]
            go_ret
            exact ⟨by rw [HV4.out]; rfl, B6.out, fun _ => by rw [stepW_3 HH.out.1 HH.out.2.1 HH.out.2.2]; rw [← HY0.out, ← HY1.out, ← HIXV.out]; exact ⟨_, _, _, _, _, _, _, _, R2.out⟩, fun k cs hk => (SK.out k cs hk).far (p := ⟨gs, 2, none⟩) (fun e => Blk.apart (hk.below' ED2.out) R1.out.k (by decide) e) _⟩
          case mo17_3018 =>
            exact AllReadyH.nil
        case mo14_3015 =>
          exact AllReadyH.nil
      case mo13_3014 =>
        exact AllReadyH.nil
    case mo4_3013 =>
      refine AllReadyH.cons (o := ?o13_3019) ?ho13_3019 (fun KK hKK => ?st13_3019) ?mo13_3019
      case ho13_3019 => (simp only [List.getElem?_toArray, List.getElem?_cons_succ, List.getElem?_cons_zero]; rfl)
      case st13_3019 =>
        go_simp
        refine hKK.out _ _ ?_ (fun hHeld2 => ?_)
        · (try dsimp only)
          first | with_reducible exact HA9 | go_keep
        clear hKK KK hHeld
        have hHeld := hHeld2
        clear hHeld2
        try simp only [Act.put, List.setIfInBounds_toArray, List.set_cons_zero, List.set_cons_succ]
        refine wpAnyH_ready (rs := [4]) (by kernel_rfl) (by simp) ?_
        refine AllReadyH.cons (o := ?o4_3020) ?ho4_3020 (fun KK hKK => ?st4_3020) ?mo4_3020
        case ho4_3020 => (simp only [List.getElem?_toArray, List.getElem?_cons_succ, List.getElem?_cons_zero]; rfl)
        case st4_3020 =>
          go_simp
          refine hKK.out _ _ ?_ (fun hHeld2 => ?_)
          · (try dsimp only)
            first | with_reducible exact HA9 | go_keep
          clear hKK KK hHeld
          have hHeld := hHeld2
          clear hHeld2
          try simp only [Act.put, List.setIfInBounds_toArray, List.set_cons_zero, List.set_cons_succ]
          refine wpAnyH_ready (rs := [14]) (by kernel_rfl) (by simp) ?_
          refine AllReadyH.cons (o := ?o14_3021) ?ho14_3021 (fun KK hKK => ?st14_3021) ?mo14_3021
          case ho14_3021 => (simp only [List.getElem?_toArray, List.getElem?_cons_succ, List.getElem?_cons_zero]; rfl)
          case st14_3021 =>
            (refine step_append_own _ rfl (.tmp 100) (.tmp 109) _ rfl base 111 j0 _ 3 24 Tryd.underlying40 hj0 hj1 hj2 hj3 rfl (by decide) (.slice A3 S.cs.length c3x) S.cs.length (S.cs.flatMap Cp.cells) rfl (by first | exact own_below (R1.out.o3.alloc _) ((Below.refl _ _).drew) | exact (own_below R1.out.o3 ((Below.refl _ _).drew)).alloc _ | exact R1.out.o3.alloc _) ⟨wn.heap.size, 0, none⟩ 1 1 [.int .i64 ix, .int .i64 y0, .int .i64 y1] rfl rfl (cells_new wn _ _) (by intro u hu; simp at hu; (first | (rcases hu with rfl | rfl | rfl <;> rfl) | (rcases hu with rfl | rfl | rfl | rfl <;> rfl) | (rcases hu with rfl | rfl | rfl | rfl | rfl <;> rfl))) (by have := HL.out; unfold maxLen; omega) (by have := HL.out; omega) (by have := R1.out.le; simp; omega) ?_; intro v' w2 hown hgr _; obtain ⟨A5, c5, rfl⟩ := Gn.own_form hown; have O5 := Lib.hid hown; have G5 := Lib.hid hgr; have BW := Lib.hid (bw_of (wn := wn) hgr (by first | exact (below_new wn _).drew | exact (below_of_drew wn _) | exact below_new wn _)); have RW := Lib.hid (R1.out.keep BW.out); have KK := after_app BW.out R1.out.o3 HB1.out HOI.out (by decide) (by decide) hgr; have HA9 := HKP.out w2 KK.1 KK.2; have SK : Hid (∀ k cs, Blk w k 9 cs → Blk w2 k 9 cs) := (fun k cs hk => ((hk.below' ED2.out).below' BW.out).grown hgr (fun e => own_apart R1.out.o3 (hk.below' ED2.out) (by decide) e.symm)); have KG := Lib.hid (RW.out.k.grown hgr (fun e => own_apart RW.out.o3 RW.out.k (by decide) e.symm)); have hg2 := KG.out.c4; have hgl2 := KG.out.lt; have B5 := Lib.hid (((below_mono ED2.out hbase).trans (BW.out.mono (Nat.le_trans hbase ED2.out.size))).grown hgr (Nat.le_trans (Nat.le_trans hbase ED2.out.size) BW.out.size) (fun q hq => (R1.out.o3.lt q hq).1)); clear hown hgr KK)
            refine hKK.out _ _ ?_ (fun hHeld2 => ?_)
            · (try dsimp only)
              first | with_reducible exact HA9 | go_keep
            clear hKK KK hHeld
            have hHeld := hHeld2
            clear hHeld2
            try simp only [Act.put, List.setIfInBounds_toArray, List.set_cons_zero, List.set_cons_succ]
            refine wpAnyH_take (i := 15) (v := ?v15_3022) rfl (by kernel_rfl) (by kernel_rfl) (by kernel_rfl) (fun _ _ _ h => h) (Or.inl ⟨by rfl, ?h15_3022⟩) (by assumption) ?r15_3022
            case h15_3022 => intro w hSw; (try dsimp only at hSw); go_simp; try with_reducible rfl
            try simp only [Act.put, List.setIfInBounds_toArray, List.set_cons_zero, List.set_cons_succ]
            refine wpAnyH_take (i := 16) (v := ?v16_3023) rfl (by kernel_rfl) (by kernel_rfl) (by kernel_rfl) (fun _ _ _ h => h) (Or.inl ⟨by rfl, ?h16_3023⟩) (by assumption) ?r16_3023
            case h16_3023 => intro w hSw; (try dsimp only at hSw); go_simp; try with_reducible rfl
            try simp only [Act.put, List.setIfInBounds_toArray, List.set_cons_zero, List.set_cons_succ]
            refine wpAnyH_ready (rs := [17]) (by kernel_rfl) (by simp) ?_
            refine AllReadyH.cons (o := ?o17_3024) ?ho17_3024 (fun KK hKK => ?st17_3024) ?mo17_3024
            case ho17_3024 => (simp only [List.getElem?_toArray, List.getElem?_cons_succ, List.getElem?_cons_zero]; rfl)
            case st17_3024 =>
              go_simp
              refine hKK.out _ _ ?_ (fun hHeld2 => ?_)
              · (try dsimp only)
                first | with_reducible exact HA9 | go_keep
              clear hKK KK hHeld
              have hHeld := hHeld2
              clear hHeld2
              try simp only [Act.put, List.setIfInBounds_toArray, List.set_cons_zero, List.set_cons_succ]
              refine wpAnyH_done (by kernel_rfl) ?_ _
              have R2 := Lib.hid (rd_3 RW.out ⟨ix, y0, y1⟩ G5.out O5.out)
              have B6 := Lib.hid (B5.out.setCell (p := ⟨gs, 2, none⟩) (show base ≤ gs from R1.out.le) (.slice A5 (S.cs.length + 1) c5))
              go_wp2_with fail
              try go_step3
              go_wp2_with fail
              try dsimp only [Exit.jump, Exit.noGoto, Exit.inBlock, Exit.then]
              go_ret
              exact ⟨by rw [HV4.out]; rfl, B6.out, fun _ => by rw [stepW_3 HH.out.1 HH.out.2.1 HH.out.2.2]; rw [← HY0.out, ← HY1.out, ← HIXV.out]; exact ⟨_, _, _, _, _, _, _, _, R2.out⟩, fun k cs hk => (SK.out k cs hk).far (p := ⟨gs, 2, none⟩) (fun e => Blk.apart (hk.below' ED2.out) R1.out.k (by decide) e) _⟩
            case mo17_3024 =>
              exact AllReadyH.nil
          case mo14_3021 =>
            exact AllReadyH.nil
        case mo4_3020 =>
          exact AllReadyH.nil
      case mo13_3019 =>
        exact AllReadyH.nil
  | false =>
  cases h4 : eqB w0 wAsd with
  | true =>
    obtain ⟨j0, hj0, hj1, hj2, hj3⟩ := info_parts asd_info
    have HWD : Hid (widthW w0 = 4) := by show _ = _; unfold widthW; rw [h1, h2, h3, h4]; rfl
    have CWD := Lib.hid (width_any w0 w)
    rw [HWD.out] at CWD
    by_cases hlen : ws.length = 4
    case neg =>
      have t2 : (((4 : Nat) : Int) == (ws.length : Int)) = false := beq_eq_false_iff_ne.2 (by omega)
      have t3 : ((4 : Int) == (ws.length : Int)) = false := beq_eq_false_iff_ne.2 (by omega)
      have HV := Lib.hid (L2.out (by rw [HW0.out, HWD.out]; decide) (by rw [HW0.out, HWD.out]; exact hlen))
      clear hrow hw0 L1 L2 L3 L4 h1 h2 h3 h4 hlen
      go_enter Tryd.func87, Tryd.ntmps87
      go_wp2_with fail
      refine wp_scope_fwd 0 rfl ?_
      go_wp2_with fail
      refine CWD.out.mono ?_
      rintro e w1 ⟨rfl, rfl⟩
      go_wp2_with fail
      go_step3
      try go_big_open
      try dsimp only [Exit.then, Exit.inBlock, Exit.jump]
      refine ⟨rfl, ?_⟩
      go_wp2_with fail
      try go_step3
      go_wp2_with fail
      try dsimp only [Exit.noGoto, Exit.inBlock, Exit.then]
      go_ret
      exact ⟨by rw [HV.out]; rfl, Below.refl _ _, (fun e => absurd (HV.out.symm.trans e) (by decide)), fun _ _ h => h⟩
    obtain ⟨a0, a1, a2, a3, rfl⟩ : ∃ a0 a1 a2 a3 : ByteArray, ws = [a0, a1, a2, a3] := len4 hlen
    clear hlen
    obtain rfl : w0 = a0 := hw0
    have hc1 := (hrow 1 _ rfl)
    rw [Nat.zero_add] at hc1
    have L3 := Lib.hid (fun h => L3.out (by rw [HW0.out, HWD.out]; decide) (by rw [HW0.out, HWD.out]; rfl) h)
    have L4 := Lib.hid (fun h => L4.out (by rw [HW0.out, HWD.out]; decide) (by rw [HW0.out, HWD.out]; rfl) h)
    have HCW : Hid (∀ W, Below w.heap.size w W → W.cell? ⟨b, 0, none⟩ = some (.string w0) ∧ W.cell? ⟨b, 1, none⟩ = some (.string a1)) := fun W bw => ⟨(bw.cell (p := ⟨b, 0, none⟩) hb).trans hc0, (bw.cell (p := ⟨b, 1, none⟩) hb).trans hc1⟩
    have CNM := Lib.hid (fun W (bw : Below w.heap.size w W) => named_any S _ _ _ _ w0 a1 W ((R0.out.keep bw).setW HL.out HPN.out HBN.out) (by rw [HWD.out]; decide) (Nat.le_trans (hs a1 (by simp)) (by decide)))
    have CNU := Lib.hid (fun W (bw : Below w.heap.size w W) => numbers_any [a2, a3] (.slice (some ⟨b, 2, none⟩) 2 2) W (str_tail (ws := [w0, a1, a2, a3]) hb hrow k1 k2 (by simp) W bw) (by simp) (fun x hx => hs x (by simp at hx ⊢; simp [hx])))
    have h1l := h1
    rw [lit_p] at h1l
    have h2l := h2
    rw [lit_b] at h2l
    have h3l := h3
    rw [lit_c] at h3l
    have h4l := h4
    rw [lit_a] at h4l
    have hg := R0.out.k.c4
    have hgl := R0.out.k.lt
    have hcw := HCW.out _ (Below.refl _ _)
    have HH := Lib.hid (show eqB w0 wProd = false ∧ eqB w0 wBid = false ∧ eqB w0 wCap = false ∧ eqB w0 wAsd = true from ⟨h1, h2, h3, h4⟩)
    clear h1 h2 h3 h4 L1 L2 hs hrow hc0 hc1 k1
    go_enter Tryd.func87, Tryd.ntmps87
    go_wp2_with fail
    refine wp_scope_fwd 0 rfl ?_
    go_wp2_with fail
    refine CWD.out.mono ?_
    rintro e w1 ⟨rfl, rfl⟩
    go_wp2_with fail
    have ED := Lib.hid ((Below.refl w.heap.size w).drew)
    have HKS : Hid (∀ W, Below w.heap.size w W → ((W.cell? ⟨gs, 0, none⟩ = some (.slice A1 S.ps.length c1) ∧ W.cell? ⟨gs, 1, none⟩ = some (.slice A2 S.bs.length c2x) ∧ W.cell? ⟨gs, 2, none⟩ = some (.slice A3 S.cs.length c3x) ∧ W.cell? ⟨gs, 3, none⟩ = some (.slice A4 S.ad.length c4x)) ∧ W.cell? ⟨b, 0, none⟩ = some (.string w0) ∧ W.cell? ⟨b, 1, none⟩ = some (.string a1))) := fun W bw => ⟨⟨(R0.out.k.below' bw).cell 0, (R0.out.k.below' bw).cell 1, (R0.out.k.below' bw).cell 2, (R0.out.k.below' bw).cell 3⟩, HCW.out W bw⟩
    go_region_held3 (fun W => (W.cell? ⟨gs, 0, none⟩ = some (.slice A1 S.ps.length c1) ∧ W.cell? ⟨gs, 1, none⟩ = some (.slice A2 S.bs.length c2x) ∧ W.cell? ⟨gs, 2, none⟩ = some (.slice A3 S.cs.length c3x) ∧ W.cell? ⟨gs, 3, none⟩ = some (.slice A4 S.ad.length c4x)) ∧ W.cell? ⟨b, 0, none⟩ = some (.string w0) ∧ W.cell? ⟨b, 1, none⟩ = some (.string a1)) (first | with_reducible exact HKS.out _ ED.out | go_keep) (first | (go_at_call 112; with_reducible refine (CNM.out _ ED.out).mono ?_; rintro e w9 ⟨ix, rfl, HIX0, dd⟩; have HIX := Lib.hid HIX0; replace ED := Lib.hid (chain0 ED.out dd); clear dd HIX0))
    have hbase : base ≤ w.heap.size := by have h1 := R0.out.le; have h2 := R0.out.k.lt; omega
    by_cases hne : nameE S w0 a1 = 0
    case neg =>
      have t5 : (nameE S w0 a1 != 0) = true := by simpa using hne
      have HV := Lib.hid (L3.out hne)
      have HQ : Hid (nameE S w0 a1 ≠ 0) := hne
      clear hne
      go_wp2_with fail
      go_step3
      try go_big_open
      try dsimp only [Exit.then, Exit.inBlock, Exit.jump]
      refine ⟨rfl, ?_⟩
      go_wp2_with fail
      try go_step3
      go_wp2_with fail
      try dsimp only [Exit.noGoto, Exit.inBlock, Exit.then]
      go_ret
      exact ⟨by rw [HV.out]; rfl, below_mono ED.out hbase, (fun e => absurd (HV.out.symm.trans e) HQ.out), fun _ _ h => h.below' ED.out⟩
    have t5 : (nameE S w0 a1 != 0) = false := by rw [hne]; rfl
    have HV4 := Lib.hid (L4.out hne)
    have HIXV := Lib.hid (HIX.out hne HH.out.1 HH.out.2.1)
    clear hne L3 L4 HIX
    go_wp2_with fail
    refine (CNU.out _ ED.out).mono ?_
    rintro e wn ⟨A6, n6, c6, rfl, HNI0, dd⟩
    have HNI := Lib.hid HNI0
    have hed9 := ED.out.size
    have ED2 := Lib.hid (chain0 ED.out dd)
    clear dd HNI0
    by_cases hnz : numsE [a2, a3] = 0
    case neg =>
      have t6 : (numsE [a2, a3] != 0) = true := by simpa using hnz
      have HQ : Hid (numsE [a2, a3] ≠ 0) := hnz
      clear hnz
      go_wp2_with fail
      go_step3
      try go_big_open
      try dsimp only [Exit.then, Exit.inBlock, Exit.jump]
      refine ⟨rfl, ?_⟩
      go_wp2_with fail
      try go_step3
      go_wp2_with fail
      try dsimp only [Exit.noGoto, Exit.inBlock, Exit.then]
      go_ret
      exact ⟨by rw [HV4.out]; rfl, below_mono ED2.out hbase, (fun e => absurd (HV4.out.symm.trans e) HQ.out), fun _ _ h => h.below' ED2.out⟩
    have t6 : (numsE [a2, a3] != 0) = false := by rw [hnz]; rfl
    obtain ⟨hn6, hoi⟩ := HNI.out hnz
    have HZ : Hid (lineE S [w0, a1, a2, a3] = 0) := HV4.out.trans hnz
    clear hnz HNI
    obtain rfl : n6 = 2 := hn6
    skip
    obtain ⟨g6, c6x, e6⟩ := own_pos hoi (by decide)
    injection e6 with e61 e62 e63
    subst e61 e63
    have HOI := Lib.hid hoi
    have ho6 := fun (j : Nat) (hj : j < 2) => hoi.cellAt j (by omega)
    have n0 : wn.cell? ⟨g6, 0, none⟩ = some (.int .i64 (numV a2)) := ho6 0 (by decide)
    have n1 : wn.cell? ⟨g6, 1, none⟩ = some (.int .i64 (numV a3)) := ho6 1 (by decide)
    have hg6 := (hoi.lt g6 rfl).2
    have R1 := Lib.hid (R0.out.keep ED2.out)
    have HB1 := Lib.hid (HBW.out.below' ED2.out)
    have hwb := HB1.out.lt
    have hcb : wn.cell? ⟨b, 1, none⟩ = some (.string a1) := by rw [HB1.out.cell 1]; rfl
    have hcb0 : wn.cell? ⟨b, 0, none⟩ = some (.string w0) := by rw [HB1.out.cell 0]; rfl
    have hgs4 := R1.out.k.c4
    have hgsl := R1.out.k.lt
    have hgn : gs ≠ b := hgb.out
    have hgi : gs ≠ g6 := fun e => own_apart HOI.out R1.out.k (by decide) (by rw [e]; rfl)
    clear hoi ho6 hg hgl hcw
    obtain ⟨y0, hy0_⟩ : ∃ y, y = numV a2 := ⟨_, rfl⟩
    rw [← hy0_] at n0
    have HY0 := Lib.hid hy0_
    clear hy0_
    obtain ⟨y1, hy1_⟩ : ∃ y, y = numV a3 := ⟨_, rfl⟩
    rw [← hy1_] at n1
    have HY1 := Lib.hid hy1_
    clear hy1_
    go_wp2_with fail
    have HKP : Hid (∀ W, Blk W b 9 (([w0, a1, a2, a3] : List ByteArray).map Value.string).toArray → W.ownsRow w9.heap.size 3 1 (.slice (some ⟨g6, 0, none⟩) 2 c6) 2 (intsC ([a2, a3].map numV)) → W.cell? ⟨g6, 0, none⟩ = some (.int .i64 y0) ∧ W.cell? ⟨g6, 1, none⟩ = some (.int .i64 y1)) := fun W k1 k2 => ⟨by rw [HY0.out]; exact k2.cellAt 0 (by decide), by rw [HY1.out]; exact k2.cellAt 1 (by decide)⟩
    refine wp_region_held_drew (S := fun W => W.cell? ⟨g6, 0, none⟩ = some (.int .i64 y0) ∧ W.cell? ⟨g6, 1, none⟩ = some (.int .i64 y1)) (by kernel_rfl) ?_ (fun hHeld => ?_)
    · (try dsimp only)
      go_keep
    refine wpAnyH_take (i := 0) (v := ?v0_4001) rfl (by kernel_rfl) (by kernel_rfl) (by kernel_rfl) (fun _ _ _ h => h) (Or.inl ⟨by rfl, ?h0_4001⟩) (by assumption) ?r0_4001
    case h0_4001 => intro w hSw; (try dsimp only at hSw); go_simp; try with_reducible rfl
    try simp only [Act.put, List.setIfInBounds_toArray, List.set_cons_zero, List.set_cons_succ]
    refine wpAnyH_take (i := 1) (v := ?v1_4002) rfl (by kernel_rfl) (by kernel_rfl) (by kernel_rfl) (fun _ _ _ h => h) (Or.inl ⟨by rfl, ?h1_4002⟩) (by assumption) ?r1_4002
    case h1_4002 => intro w hSw; (try dsimp only at hSw); go_simp; try with_reducible rfl
    try simp only [Act.put, List.setIfInBounds_toArray, List.set_cons_zero, List.set_cons_succ]
    refine wpAnyH_take (i := 2) (v := ?v2_4003) rfl (by kernel_rfl) (by kernel_rfl) (by kernel_rfl) (fun _ _ _ h => h) (Or.inl ⟨by rfl, ?h2_4003⟩) (by assumption) ?r2_4003
    case h2_4003 => intro w hSw; (try dsimp only at hSw); go_simp; try with_reducible rfl
    try simp only [Act.put, List.setIfInBounds_toArray, List.set_cons_zero, List.set_cons_succ]
    refine wpAnyH_take (i := 3) (v := ?v3_4004) rfl (by kernel_rfl) (by kernel_rfl) (by kernel_rfl) (fun _ _ _ h => h) (Or.inl ⟨by rfl, ?h3_4004⟩) (by assumption) ?r3_4004
    case h3_4004 => intro w hSw; (try dsimp only at hSw); go_simp; try with_reducible rfl
    try simp only [Act.put, List.setIfInBounds_toArray, List.set_cons_zero, List.set_cons_succ]
    refine wpAnyH_take (i := 5) (v := ?v5_4005) rfl (by kernel_rfl) (by kernel_rfl) (by kernel_rfl) (fun _ _ _ h => h) (Or.inl ⟨by rfl, ?h5_4005⟩) (by assumption) ?r5_4005
    case h5_4005 => intro w hSw; (try dsimp only at hSw); go_simp; try with_reducible rfl
    try simp only [Act.put, List.setIfInBounds_toArray, List.set_cons_zero, List.set_cons_succ]
    refine wpAnyH_take (i := 6) (v := ?v6_4006) rfl (by kernel_rfl) (by kernel_rfl) (by kernel_rfl) (fun _ _ _ h => h) (Or.inl ⟨by rfl, ?h6_4006⟩) (by assumption) ?r6_4006
    case h6_4006 => intro w hSw; (try dsimp only at hSw); go_simp; try with_reducible rfl
    try simp only [Act.put, List.setIfInBounds_toArray, List.set_cons_zero, List.set_cons_succ]
    refine wpAnyH_take (i := 7) (v := ?v7_4007) rfl (by kernel_rfl) (by kernel_rfl) (by kernel_rfl) (fun _ _ _ h => h) (Or.inl ⟨by rfl, ?h7_4007⟩) (by assumption) ?r7_4007
    case h7_4007 => intro w hSw; (try dsimp only at hSw); go_simp; try with_reducible rfl
    try simp only [Act.put, List.setIfInBounds_toArray, List.set_cons_zero, List.set_cons_succ]
    refine wpAnyH_take (i := 8) (v := ?v8_4008) rfl (by kernel_rfl) (by kernel_rfl) (by kernel_rfl) (fun _ _ _ h => h) (Or.inl ⟨by rfl, ?h8_4008⟩) (by assumption) ?r8_4008
    case h8_4008 => intro w hSw; (try dsimp only at hSw); go_simp; try with_reducible rfl
    try simp only [Act.put, List.setIfInBounds_toArray, List.set_cons_zero, List.set_cons_succ]
    refine wpAnyH_take (i := 9) (v := ?v9_4009) rfl (by kernel_rfl) (by kernel_rfl) (by kernel_rfl) (fun _ _ _ h => h) (Or.inl ⟨by rfl, ?h9_4009⟩) (by assumption) ?r9_4009
    case h9_4009 => intro w hSw; (try dsimp only at hSw); go_simp; try with_reducible rfl
    try simp only [Act.put, List.setIfInBounds_toArray, List.set_cons_zero, List.set_cons_succ]
    refine wpAnyH_take (i := 10) (v := ?v10_4010) rfl (by kernel_rfl) (by kernel_rfl) (by kernel_rfl) (fun _ _ _ h => h) (Or.inl ⟨by rfl, ?h10_4010⟩) (by assumption) ?r10_4010
    case h10_4010 => intro w hSw; (try dsimp only at hSw); go_simp; try with_reducible rfl
    try simp only [Act.put, List.setIfInBounds_toArray, List.set_cons_zero, List.set_cons_succ]
    refine wpAnyH_take (i := 11) (v := ?v11_4011) rfl (by kernel_rfl) (by kernel_rfl) (by kernel_rfl) (fun _ _ _ h => h) (Or.inl ⟨by rfl, ?h11_4011⟩) (by assumption) ?r11_4011
    case h11_4011 => intro w hSw; (try dsimp only at hSw); go_simp; try with_reducible rfl
    try simp only [Act.put, List.setIfInBounds_toArray, List.set_cons_zero, List.set_cons_succ]
    refine wpAnyH_take (i := 12) (v := ?v12_4012) rfl (by kernel_rfl) (by kernel_rfl) (by kernel_rfl) (fun _ _ _ h => h) (Or.inl ⟨by rfl, ?h12_4012⟩) (by assumption) ?r12_4012
    case h12_4012 => intro w hSw; (try dsimp only at hSw); go_simp; try with_reducible rfl
    try simp only [Act.put, List.setIfInBounds_toArray, List.set_cons_zero, List.set_cons_succ]
    refine wpAnyH_ready (rs := [4, 13]) (by kernel_rfl) (by simp) ?_
    refine AllReadyH.cons (o := ?o4_4013) ?ho4_4013 (fun KK hKK => ?st4_4013) ?mo4_4013
    case ho4_4013 => (simp only [List.getElem?_toArray, List.getElem?_cons_succ, List.getElem?_cons_zero]; rfl)
    case st4_4013 =>
      go_simp
      refine hKK.out _ _ ?_ (fun hHeld2 => ?_)
      · (try dsimp only)
        first | with_reducible exact HA9 | go_keep
      clear hKK KK hHeld
      have hHeld := hHeld2
      clear hHeld2
      try simp only [Act.put, List.setIfInBounds_toArray, List.set_cons_zero, List.set_cons_succ]
      refine wpAnyH_ready (rs := [13]) (by kernel_rfl) (by simp) ?_
      refine AllReadyH.cons (o := ?o13_4014) ?ho13_4014 (fun KK hKK => ?st13_4014) ?mo13_4014
      case ho13_4014 => (simp only [List.getElem?_toArray, List.getElem?_cons_succ, List.getElem?_cons_zero]; rfl)
      case st13_4014 =>
        go_simp
        refine hKK.out _ _ ?_ (fun hHeld2 => ?_)
        · (try dsimp only)
          first | with_reducible exact HA9 | go_keep
        clear hKK KK hHeld
        have hHeld := hHeld2
        clear hHeld2
        try simp only [Act.put, List.setIfInBounds_toArray, List.set_cons_zero, List.set_cons_succ]
        refine wpAnyH_ready (rs := [14]) (by kernel_rfl) (by simp) ?_
        refine AllReadyH.cons (o := ?o14_4015) ?ho14_4015 (fun KK hKK => ?st14_4015) ?mo14_4015
        case ho14_4015 => (simp only [List.getElem?_toArray, List.getElem?_cons_succ, List.getElem?_cons_zero]; rfl)
        case st14_4015 =>
          (refine step_append_own _ rfl (.tmp 119) (.tmp 128) _ rfl base 114 j0 _ 3 24 Tryd.underlying41 hj0 hj1 hj2 hj3 rfl (by decide) (.slice A4 S.ad.length c4x) S.ad.length (S.ad.flatMap Asd.cells) rfl (by first | exact own_below (R1.out.o4.alloc _) ((Below.refl _ _).drew) | exact (own_below R1.out.o4 ((Below.refl _ _).drew)).alloc _ | exact R1.out.o4.alloc _) ⟨wn.heap.size, 0, none⟩ 1 1 [.int .i64 ix, .int .i64 y0, .int .i64 y1] rfl rfl (cells_new wn _ _) (by intro u hu; simp at hu; (first | (rcases hu with rfl | rfl | rfl <;> rfl) | (rcases hu with rfl | rfl | rfl | rfl <;> rfl) | (rcases hu with rfl | rfl | rfl | rfl | rfl <;> rfl))) (by have := HL.out; unfold maxLen; omega) (by have := HL.out; omega) (by have := R1.out.le; simp; omega) ?_; intro v' w2 hown hgr _; obtain ⟨A5, c5, rfl⟩ := Gn.own_form hown; have O5 := Lib.hid hown; have G5 := Lib.hid hgr; have BW := Lib.hid (bw_of (wn := wn) hgr (by first | exact (below_new wn _).drew | exact (below_of_drew wn _) | exact below_new wn _)); have RW := Lib.hid (R1.out.keep BW.out); have KK := after_app BW.out R1.out.o4 HB1.out HOI.out (by decide) (by decide) hgr; have HA9 := HKP.out w2 KK.1 KK.2; have SK : Hid (∀ k cs, Blk w k 9 cs → Blk w2 k 9 cs) := (fun k cs hk => ((hk.below' ED2.out).below' BW.out).grown hgr (fun e => own_apart R1.out.o4 (hk.below' ED2.out) (by decide) e.symm)); have KG := Lib.hid (RW.out.k.grown hgr (fun e => own_apart RW.out.o4 RW.out.k (by decide) e.symm)); have hg2 := KG.out.c4; have hgl2 := KG.out.lt; have B5 := Lib.hid (((below_mono ED2.out hbase).trans (BW.out.mono (Nat.le_trans hbase ED2.out.size))).grown hgr (Nat.le_trans (Nat.le_trans hbase ED2.out.size) BW.out.size) (fun q hq => (R1.out.o4.lt q hq).1)); clear hown hgr KK)
          refine hKK.out _ _ ?_ (fun hHeld2 => ?_)
          · (try dsimp only)
            first | with_reducible exact HA9 | go_keep
          clear hKK KK hHeld
          have hHeld := hHeld2
          clear hHeld2
          try simp only [Act.put, List.setIfInBounds_toArray, List.set_cons_zero, List.set_cons_succ]
          refine wpAnyH_take (i := 15) (v := ?v15_4016) rfl (by kernel_rfl) (by kernel_rfl) (by kernel_rfl) (fun _ _ _ h => h) (Or.inl ⟨by rfl, ?h15_4016⟩) (by assumption) ?r15_4016
          case h15_4016 => intro w hSw; (try dsimp only at hSw); go_simp; try with_reducible rfl
          try simp only [Act.put, List.setIfInBounds_toArray, List.set_cons_zero, List.set_cons_succ]
          refine wpAnyH_take (i := 16) (v := ?v16_4017) rfl (by kernel_rfl) (by kernel_rfl) (by kernel_rfl) (fun _ _ _ h => h) (Or.inl ⟨by rfl, ?h16_4017⟩) (by assumption) ?r16_4017
          case h16_4017 => intro w hSw; (try dsimp only at hSw); go_simp; try with_reducible rfl
          try simp only [Act.put, List.setIfInBounds_toArray, List.set_cons_zero, List.set_cons_succ]
          refine wpAnyH_ready (rs := [17]) (by kernel_rfl) (by simp) ?_
          refine AllReadyH.cons (o := ?o17_4018) ?ho17_4018 (fun KK hKK => ?st17_4018) ?mo17_4018
          case ho17_4018 => (simp only [List.getElem?_toArray, List.getElem?_cons_succ, List.getElem?_cons_zero]; rfl)
          case st17_4018 =>
            go_simp
            refine hKK.out _ _ ?_ (fun hHeld2 => ?_)
            · (try dsimp only)
              first | with_reducible exact HA9 | go_keep
            clear hKK KK hHeld
            have hHeld := hHeld2
            clear hHeld2
            try simp only [Act.put, List.setIfInBounds_toArray, List.set_cons_zero, List.set_cons_succ]
            refine wpAnyH_done (by kernel_rfl) ?_ _
            have R2 := Lib.hid (rd_4 RW.out ⟨ix, y0, y1⟩ G5.out O5.out)
            have B6 := Lib.hid (B5.out.setCell (p := ⟨gs, 3, none⟩) (show base ≤ gs from R1.out.le) (.slice A5 (S.ad.length + 1) c5))
            go_wp2_with fail
            try go_step3
            go_wp2_with fail
            try dsimp only [Exit.jump, Exit.noGoto, Exit.inBlock, Exit.then]
            go_ret
            exact ⟨by rw [HV4.out]; rfl, B6.out, fun _ => by rw [stepW_4 HH.out.1 HH.out.2.1 HH.out.2.2.1]; rw [← HY0.out, ← HY1.out, ← HIXV.out]; exact ⟨_, _, _, _, _, _, _, _, R2.out⟩, fun k cs hk => (SK.out k cs hk).far (p := ⟨gs, 3, none⟩) (fun e => Blk.apart (hk.below' ED2.out) R1.out.k (by decide) e) _⟩
          case mo17_4018 =>
            exact AllReadyH.nil
        case mo14_4015 =>
          exact AllReadyH.nil
      case mo13_4014 =>
        exact AllReadyH.nil
    case mo4_4013 =>
      refine AllReadyH.cons (o := ?o13_4019) ?ho13_4019 (fun KK hKK => ?st13_4019) ?mo13_4019
      case ho13_4019 => (simp only [List.getElem?_toArray, List.getElem?_cons_succ, List.getElem?_cons_zero]; rfl)
      case st13_4019 =>
        go_simp
        refine hKK.out _ _ ?_ (fun hHeld2 => ?_)
        · (try dsimp only)
          first | with_reducible exact HA9 | go_keep
        clear hKK KK hHeld
        have hHeld := hHeld2
        clear hHeld2
        try simp only [Act.put, List.setIfInBounds_toArray, List.set_cons_zero, List.set_cons_succ]
        refine wpAnyH_ready (rs := [4]) (by kernel_rfl) (by simp) ?_
        refine AllReadyH.cons (o := ?o4_4020) ?ho4_4020 (fun KK hKK => ?st4_4020) ?mo4_4020
        case ho4_4020 => (simp only [List.getElem?_toArray, List.getElem?_cons_succ, List.getElem?_cons_zero]; rfl)
        case st4_4020 =>
          go_simp
          refine hKK.out _ _ ?_ (fun hHeld2 => ?_)
          · (try dsimp only)
            first | with_reducible exact HA9 | go_keep
          clear hKK KK hHeld
          have hHeld := hHeld2
          clear hHeld2
          try simp only [Act.put, List.setIfInBounds_toArray, List.set_cons_zero, List.set_cons_succ]
          refine wpAnyH_ready (rs := [14]) (by kernel_rfl) (by simp) ?_
          refine AllReadyH.cons (o := ?o14_4021) ?ho14_4021 (fun KK hKK => ?st14_4021) ?mo14_4021
          case ho14_4021 => (simp only [List.getElem?_toArray, List.getElem?_cons_succ, List.getElem?_cons_zero]; rfl)
          case st14_4021 =>
            (refine step_append_own _ rfl (.tmp 119) (.tmp 128) _ rfl base 114 j0 _ 3 24 Tryd.underlying41 hj0 hj1 hj2 hj3 rfl (by decide) (.slice A4 S.ad.length c4x) S.ad.length (S.ad.flatMap Asd.cells) rfl (by first | exact own_below (R1.out.o4.alloc _) ((Below.refl _ _).drew) | exact (own_below R1.out.o4 ((Below.refl _ _).drew)).alloc _ | exact R1.out.o4.alloc _) ⟨wn.heap.size, 0, none⟩ 1 1 [.int .i64 ix, .int .i64 y0, .int .i64 y1] rfl rfl (cells_new wn _ _) (by intro u hu; simp at hu; (first | (rcases hu with rfl | rfl | rfl <;> rfl) | (rcases hu with rfl | rfl | rfl | rfl <;> rfl) | (rcases hu with rfl | rfl | rfl | rfl | rfl <;> rfl))) (by have := HL.out; unfold maxLen; omega) (by have := HL.out; omega) (by have := R1.out.le; simp; omega) ?_; intro v' w2 hown hgr _; obtain ⟨A5, c5, rfl⟩ := Gn.own_form hown; have O5 := Lib.hid hown; have G5 := Lib.hid hgr; have BW := Lib.hid (bw_of (wn := wn) hgr (by first | exact (below_new wn _).drew | exact (below_of_drew wn _) | exact below_new wn _)); have RW := Lib.hid (R1.out.keep BW.out); have KK := after_app BW.out R1.out.o4 HB1.out HOI.out (by decide) (by decide) hgr; have HA9 := HKP.out w2 KK.1 KK.2; have SK : Hid (∀ k cs, Blk w k 9 cs → Blk w2 k 9 cs) := (fun k cs hk => ((hk.below' ED2.out).below' BW.out).grown hgr (fun e => own_apart R1.out.o4 (hk.below' ED2.out) (by decide) e.symm)); have KG := Lib.hid (RW.out.k.grown hgr (fun e => own_apart RW.out.o4 RW.out.k (by decide) e.symm)); have hg2 := KG.out.c4; have hgl2 := KG.out.lt; have B5 := Lib.hid (((below_mono ED2.out hbase).trans (BW.out.mono (Nat.le_trans hbase ED2.out.size))).grown hgr (Nat.le_trans (Nat.le_trans hbase ED2.out.size) BW.out.size) (fun q hq => (R1.out.o4.lt q hq).1)); clear hown hgr KK)
            refine hKK.out _ _ ?_ (fun hHeld2 => ?_)
            · (try dsimp only)
              first | with_reducible exact HA9 | go_keep
            clear hKK KK hHeld
            have hHeld := hHeld2
            clear hHeld2
            try simp only [Act.put, List.setIfInBounds_toArray, List.set_cons_zero, List.set_cons_succ]
            refine wpAnyH_take (i := 15) (v := ?v15_4022) rfl (by kernel_rfl) (by kernel_rfl) (by kernel_rfl) (fun _ _ _ h => h) (Or.inl ⟨by rfl, ?h15_4022⟩) (by assumption) ?r15_4022
            case h15_4022 => intro w hSw; (try dsimp only at hSw); go_simp; try with_reducible rfl
            try simp only [Act.put, List.setIfInBounds_toArray, List.set_cons_zero, List.set_cons_succ]
            refine wpAnyH_take (i := 16) (v := ?v16_4023) rfl (by kernel_rfl) (by kernel_rfl) (by kernel_rfl) (fun _ _ _ h => h) (Or.inl ⟨by rfl, ?h16_4023⟩) (by assumption) ?r16_4023
            case h16_4023 => intro w hSw; (try dsimp only at hSw); go_simp; try with_reducible rfl
            try simp only [Act.put, List.setIfInBounds_toArray, List.set_cons_zero, List.set_cons_succ]
            refine wpAnyH_ready (rs := [17]) (by kernel_rfl) (by simp) ?_
            refine AllReadyH.cons (o := ?o17_4024) ?ho17_4024 (fun KK hKK => ?st17_4024) ?mo17_4024
            case ho17_4024 => (simp only [List.getElem?_toArray, List.getElem?_cons_succ, List.getElem?_cons_zero]; rfl)
            case st17_4024 =>
              go_simp
              refine hKK.out _ _ ?_ (fun hHeld2 => ?_)
              · (try dsimp only)
                first | with_reducible exact HA9 | go_keep
              clear hKK KK hHeld
              have hHeld := hHeld2
              clear hHeld2
              try simp only [Act.put, List.setIfInBounds_toArray, List.set_cons_zero, List.set_cons_succ]
              refine wpAnyH_done (by kernel_rfl) ?_ _
              have R2 := Lib.hid (rd_4 RW.out ⟨ix, y0, y1⟩ G5.out O5.out)
              have B6 := Lib.hid (B5.out.setCell (p := ⟨gs, 3, none⟩) (show base ≤ gs from R1.out.le) (.slice A5 (S.ad.length + 1) c5))
              go_wp2_with fail
              try go_step3
              go_wp2_with fail
              try dsimp only [Exit.jump, Exit.noGoto, Exit.inBlock, Exit.then]
              go_ret
              exact ⟨by rw [HV4.out]; rfl, B6.out, fun _ => by rw [stepW_4 HH.out.1 HH.out.2.1 HH.out.2.2.1]; rw [← HY0.out, ← HY1.out, ← HIXV.out]; exact ⟨_, _, _, _, _, _, _, _, R2.out⟩, fun k cs hk => (SK.out k cs hk).far (p := ⟨gs, 3, none⟩) (fun e => Blk.apart (hk.below' ED2.out) R1.out.k (by decide) e) _⟩
            case mo17_4024 =>
              exact AllReadyH.nil
          case mo14_4021 =>
            exact AllReadyH.nil
        case mo4_4020 =>
          exact AllReadyH.nil
      case mo13_4019 =>
        exact AllReadyH.nil
  | false =>
    have HWD : Hid (widthW w0 = 0) := by show _ = _; unfold widthW; rw [h1, h2, h3, h4]; rfl
    have CWD := Lib.hid (width_any w0 w)
    rw [HWD.out] at CWD
    have HV := Lib.hid (L1.out (by rw [HW0.out, HWD.out]))
    clear hrow hw0 L1 L2 L3 L4 h1 h2 h3 h4
    go_enter Tryd.func87, Tryd.ntmps87
    go_wp2_with fail
    refine wp_scope_fwd 0 rfl ?_
    go_wp2_with fail
    refine CWD.out.mono ?_
    rintro e w1 ⟨rfl, rfl⟩
    go_wp2_with fail
    go_step3
    try go_big_open
    try dsimp only [Exit.then, Exit.inBlock, Exit.jump]
    refine ⟨rfl, ?_⟩
    go_wp2_with fail
    try go_step3
    go_wp2_with fail
    try dsimp only [Exit.noGoto, Exit.inBlock, Exit.then]
    go_ret
    exact ⟨by rw [HV.out]; rfl, Below.refl _ _, (fun e => absurd (HV.out.symm.trans e) (by decide)), fun _ _ h => h⟩
end Go.Proofs.YtjjlhihocllgjaaDoor.Se
