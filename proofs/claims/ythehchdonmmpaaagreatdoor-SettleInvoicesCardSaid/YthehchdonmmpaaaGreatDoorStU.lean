/- Fractions that are none below: sums, differences and comparisons of the reference, in memory. -/
import Derived.Test.YthehchdonmmpaaaGreatDoorStO
namespace Go.Proofs.YthehchdonmmpaaaGreatDoor.St
open Go.ChangeShapes Go.WideShapes Go.ChangeAt Go.RowKit Gn Cat Lex Pr Ros Fr
set_option linter.unusedVariables false
set_option linter.unusedSimpArgs false
/-- the call returns the fraction n / d in new memory -/
abbrev PosPost (n d : Nat) (w : World) (e : Ending) (w' : World) : Prop := ∃ A1 c1 A2 c2, e = .returned (.agg #[.bool false, .slice A1 (digs n).length c1, .slice A2 (digs d).length c2]) ∧ NS w' (.slice A1 (digs n).length c1) (digs n) ∧ NS w' (.slice A2 (digs d).length c2) (digs d) ∧ Below w.heap.size w w'
theorem pos_of {s : Bool} {n d : Nat} {w w' : World} {e : Ending} (hs : s = false) (h : FracPost s n d w e w') : PosPost n d w e w' := by
  subst hs
  obtain ⟨v, rfl, ⟨A1, c1, A2, c2, rfl, h1, h2⟩, b⟩ := h
  exact ⟨A1, c1, A2, c2, rfl, h1, h2, b⟩
theorem add_pos (A1 A2 A3 A4 : Option Addr) (c1 c2 c3 c4 n1 d1 n2 d2 nn dd : Nat) (w : World) (l1 : (digs n1).length ≤ 1000) (l2 : (digs d1).length ≤ 1000) (l3 : (digs n2).length ≤ 1000) (l4 : (digs d2).length ≤ 1000) (e1 : d1 ≠ 0) (e2 : d2 ≠ 0)
    (hn : nn = (n1 * d2 + n2 * d1) / Nat.gcd (n1 * d2 + n2 * d1) (d1 * d2)) (hd : dd = d1 * d2 / Nat.gcd (n1 * d2 + n2 * d1) (d1 * d2))
    (h1 : NS w (.slice A1 (digs n1).length c1) (digs n1)) (h2 : NS w (.slice A2 (digs d1).length c2) (digs d1)) (h3 : NS w (.slice A3 (digs n2).length c3) (digs n2)) (h4 : NS w (.slice A4 (digs d2).length c4) (digs d2)) :
    Calls Tryz.prog 72 #[.agg #[.bool false, .slice A1 (digs n1).length c1, .slice A2 (digs d1).length c2], .agg #[.bool false, .slice A3 (digs n2).length c3, .slice A4 (digs d2).length c4]] w (PosPost nn dd w) := by
  rw [hn, hd]
  exact (fadd_same false false A1 A2 A3 A4 c1 c2 c3 c4 n1 d1 n2 d2 w l1 l2 l3 l4 e1 e2 rfl h1 h2 h3 h4).mono fun e w' h => pos_of (Bool.false_and _) h
theorem int_pos (x : Nat) (w : World) (hx : x < 9223372036854775808) : Calls Tryz.prog 22 #[.int .i64 (x : Int)] w (PosPost x 1 w) := by
  refine (fromInt_any (x : Int) w (by omega) (by omega)).mono fun e w' h => ?_
  rw [Int.natAbs_natCast] at h
  exact pos_of (decide_eq_false (by omega)) h
theorem sub_pos (A1 A2 A3 A4 : Option Addr) (c1 c2 c3 c4 n1 d1 n2 d2 nn dd : Nat) (w : World) (l1 : (digs n1).length ≤ 1000) (l2 : (digs d1).length ≤ 1000) (l3 : (digs n2).length ≤ 1000) (l4 : (digs d2).length ≤ 1000) (e1 : d1 ≠ 0) (e2 : d2 ≠ 0) (hc : n2 * d1 ≤ n1 * d2)
    (hn : nn = (n1 * d2 - n2 * d1) / Nat.gcd (n1 * d2 - n2 * d1) (d1 * d2)) (hd : dd = d1 * d2 / Nat.gcd (n1 * d2 - n2 * d1) (d1 * d2))
    (h1 : NS w (.slice A1 (digs n1).length c1) (digs n1)) (h2 : NS w (.slice A2 (digs d1).length c2) (digs d1)) (h3 : NS w (.slice A3 (digs n2).length c3) (digs n2)) (h4 : NS w (.slice A4 (digs d2).length c4) (digs d2)) :
    Calls Tryz.prog 46 #[.agg #[.bool false, .slice A1 (digs n1).length c1, .slice A2 (digs d1).length c2], .agg #[.bool false, .slice A3 (digs n2).length c3, .slice A4 (digs d2).length c4]] w (PosPost nn dd w) := by
  rw [hn, hd]
  by_cases h0 : n2 = 0
  · have ea : n1 * d2 - n2 * d1 = n1 * d2 + n2 * d1 := by rw [h0, Nat.zero_mul]; rfl
    rw [ea]
    refine (fsub_of false false A1 A2 A3 A4 c1 c2 c3 c4 n1 d1 n2 d2 w _ false _ _ (by rw [h0]; rfl) h3 h4 fun A5 A6 c5 c6 w' b q1 q2 => fadd_same false false A1 A2 A5 A6 c1 c2 c5 c6 n1 d1 n2 d2 w' l1 l2 l3 l4 e1 e2 rfl (h1.keep b) (h2.keep b) q1 q2).mono fun e w' h => pos_of (Bool.false_and _) h
  · refine (fsub_of false false A1 A2 A3 A4 c1 c2 c3 c4 n1 d1 n2 d2 w _ true _ _ (by simp [h0]) h3 h4 fun A5 A6 c5 c6 w' b q1 q2 => fadd_yes false true A1 A2 A5 A6 c1 c2 c5 c6 n1 d1 n2 d2 w' l1 l2 l3 l4 e1 e2 (by decide) hc (h1.keep b) (h2.keep b) q1 q2).mono fun e w' h => pos_of (Bool.false_and _) h
theorem cmp_neg (A1 A2 A3 A4 : Option Addr) (c1 c2 c3 c4 n1 d1 n2 d2 : Nat) (w : World) (l1 : (digs n1).length ≤ 1000) (l2 : (digs d1).length ≤ 1000) (l3 : (digs n2).length ≤ 1000) (l4 : (digs d2).length ≤ 1000) (e1 : d1 ≠ 0) (e2 : d2 ≠ 0) (hc : n1 * d2 < n2 * d1)
    (h1 : NS w (.slice A1 (digs n1).length c1) (digs n1)) (h2 : NS w (.slice A2 (digs d1).length c2) (digs d1)) (h3 : NS w (.slice A3 (digs n2).length c3) (digs n2)) (h4 : NS w (.slice A4 (digs d2).length c4) (digs d2)) :
    Calls Tryz.prog 21 #[.agg #[.bool false, .slice A1 (digs n1).length c1, .slice A2 (digs d1).length c2], .agg #[.bool false, .slice A3 (digs n2).length c3, .slice A4 (digs d2).length c4]] w fun e w' => e = .returned (.int .i64 (-1)) ∧ Below w.heap.size w w' := by
  have hn : n2 ≠ 0 := fun h => by rw [h, Nat.zero_mul] at hc; omega
  refine (fcmp_any false false A1 A2 A3 A4 c1 c2 c3 c4 n1 d1 n2 d2 w _ true _ _ (by simp [hn]) h3 h4 fun A5 A6 c5 c6 w' b q1 q2 => fadd_no false true A1 A2 A5 A6 c1 c2 c5 c6 n1 d1 n2 d2 w' l1 l2 l3 l4 e1 e2 (by decide) hc (h1.keep b) (h2.keep b) q1 q2).mono ?_
  rintro e w' ⟨rfl, b⟩
  refine ⟨?_, b⟩
  have h2 : n2 * d1 - n1 * d2 ≠ 0 := by omega
  rw [show (true && decide (n2 * d1 - n1 * d2 ≠ 0)) = true by simp only [Bool.true_and, decide_eq_true_eq]; exact h2]
  rfl
/-- a fraction in a block of the walk's own -/
structure PSt (w : World) (g n d : Nat) (A1 A2 : Option Addr) (c1 c2 : Nat) (W : World) : Prop where
  bel : Below w.heap.size w W
  blk : Blk W g 47 #[.bool false, .slice A1 (digs n).length c1, .slice A2 (digs d).length c2]
  n1 : NS W (.slice A1 (digs n).length c1) (digs n)
  n2 : NS W (.slice A2 (digs d).length c2) (digs d)
theorem PSt.keep {w : World} {g n d : Nat} {A1 A2 : Option Addr} {c1 c2 : Nat} {W W' : World} (h : PSt w g n d A1 A2 c1 c2 W) (b : Below W.heap.size W W') : PSt w g n d A1 A2 c1 c2 W' := ⟨chain0 h.bel b, h.blk.below' b, h.n1.keep b, h.n2.keep b⟩
theorem PSt.cells {w : World} {g n d : Nat} {A1 A2 : Option Addr} {c1 c2 : Nat} {W : World} (h : PSt w g n d A1 A2 c1 c2 W) : W.cell? ⟨g, 0, none⟩ = some (.bool false) ∧ W.cell? ⟨g, 1, none⟩ = some (.slice A1 (digs n).length c1) ∧ W.cell? ⟨g, 2, none⟩ = some (.slice A2 (digs d).length c2) := ⟨h.blk.cell 0, h.blk.cell 1, h.blk.cell 2⟩
theorem PSt.drew {w : World} {g n d : Nat} {A1 A2 : Option Addr} {c1 c2 : Nat} {W : World} (h : PSt w g n d A1 A2 c1 c2 W) : PSt w g n d A1 A2 c1 c2 W.drew := h.keep (Below.refl _ _).drew
theorem PSt.put {w : World} {g n d n' d' : Nat} {A1 A2 B1 B2 : Option Addr} {c1 c2 k1 k2 : Nat} {W : World} (h : PSt w g n d A1 A2 c1 c2 W) (hg : w.heap.size ≤ g) (s1 : NS W (.slice B1 (digs n').length k1) (digs n')) (s2 : NS W (.slice B2 (digs d').length k2) (digs d')) :
    PSt w g n' d' B1 B2 k1 k2 (((W.setCell ⟨g, 0, none⟩ (.bool false)).setCell ⟨g, 1, none⟩ (.slice B1 (digs n').length k1)).setCell ⟨g, 2, none⟩ (.slice B2 (digs d').length k2)) := by
  obtain ⟨K, ⟨_, _, _, _, e, q1, q2⟩, b⟩ := frac_put (sg := false) h.blk hg s1 s2 h.bel
  injection e with e
  simp only [Array.mk.injEq, List.cons.injEq, and_true, true_and, Value.slice.injEq] at e
  obtain ⟨⟨rfl, rfl⟩, rfl, rfl⟩ := e
  exact ⟨b, K, q1, q2⟩
theorem far_cells {w : World} {g n d g8 : Nat} {A1 A2 : Option Addr} {c1 c2 : Nat} {W : World} (h : PSt w g n d A1 A2 c1 c2 W) (hg : g < g8) (x y z : Value) : (((W.setCell ⟨g8, 0, none⟩ x).setCell ⟨g8, 1, none⟩ y).setCell ⟨g8, 2, none⟩ z).cell? ⟨g, 0, none⟩ = some (.bool false) ∧ (((W.setCell ⟨g8, 0, none⟩ x).setCell ⟨g8, 1, none⟩ y).setCell ⟨g8, 2, none⟩ z).cell? ⟨g, 1, none⟩ = some (.slice A1 (digs n).length c1) ∧ (((W.setCell ⟨g8, 0, none⟩ x).setCell ⟨g8, 1, none⟩ y).setCell ⟨g8, 2, none⟩ z).cell? ⟨g, 2, none⟩ = some (.slice A2 (digs d).length c2) :=
  have K := far3 h.blk hg x y z
  ⟨K.cell 0, K.cell 1, K.cell 2⟩
theorem PSt.over_new {w : World} {g n d n' d' : Nat} {A1 A2 B1 B2 : Option Addr} {c1 c2 k1 k2 : Nat} {W : World} (h : PSt w g n d A1 A2 c1 c2 W) (s1 : NS W (.slice B1 (digs n').length k1) (digs n')) (s2 : NS W (.slice B2 (digs d').length k2) (digs d')) :
    PSt w W.heap.size n' d' B1 B2 k1 k2 (W.alloc (.cells #[.bool false, .slice B1 (digs n').length k1, .slice B2 (digs d').length k2] 47)) :=
  ⟨chain0 h.bel (below_new W _), Blk.new W _ _, s1.keep (below_new W _), s2.keep (below_new W _)⟩
theorem PSt.over_put {w : World} {g g8 n d n' d' : Nat} {A1 A2 B1 B2 E1 E2 : Option Addr} {c1 c2 k1 k2 m1 m2 q1 q2 : Nat} {b0 : Bool} {W : World} (h : PSt w g n d A1 A2 c1 c2 W) (K : Blk W g8 47 #[.bool b0, .slice E1 m1 q1, .slice E2 m2 q2]) (hw : w.heap.size ≤ g) (hg : g < g8) (s1 : NS W (.slice B1 (digs n').length k1) (digs n')) (s2 : NS W (.slice B2 (digs d').length k2) (digs d')) :
    PSt w g8 n' d' B1 B2 k1 k2 (((W.setCell ⟨g8, 0, none⟩ (.bool false)).setCell ⟨g8, 1, none⟩ (.slice B1 (digs n').length k1)).setCell ⟨g8, 2, none⟩ (.slice B2 (digs d').length k2)) := by
  obtain ⟨K, ⟨_, _, _, _, e, q1, q2⟩, b⟩ := frac_put (sg := false) K (by omega) s1 s2 h.bel
  injection e with e
  simp only [Array.mk.injEq, List.cons.injEq, and_true, true_and, Value.slice.injEq] at e
  obtain ⟨⟨rfl, rfl⟩, rfl, rfl⟩ := e
  exact ⟨b, K, q1, q2⟩
theorem PSt.new (w : World) {n d : Nat} {A1 A2 : Option Addr} {c1 c2 : Nat} (s1 : NS w (.slice A1 (digs n).length c1) (digs n)) (s2 : NS w (.slice A2 (digs d).length c2) (digs d)) : PSt w w.heap.size n d A1 A2 c1 c2 (w.alloc (.cells #[.bool false, .slice A1 (digs n).length c1, .slice A2 (digs d).length c2] 47)) :=
  ⟨below_new w _, Blk.new w _ _, s1.keep (below_new w _), s2.keep (below_new w _)⟩
/-- the amounts due add up to reserves and payments -/
def rsum (L : List Inv) : Nat := (L.map fun x => x.reserve.toNat).sum
theorem rsum_snoc (L : List Inv) (x : Inv) : rsum (L ++ [x]) = rsum L + x.reserve.toNat := by simp [rsum]
theorem sum_range0 {p : Nat → Int} {ps : List Prod} : 0 ≤ sumE Prod.reserve p ps ∧ sumE Prod.reserve p ps ≤ 24000000 := sum_range
theorem dues_all {L : List Inv} (h : ∀ x ∈ L, 0 ≤ x.due ∧ x.due ≤ 1000000) : dues L = L.map (·.due) := by
  unfold dues
  rw [List.filter_eq_self.2 (fun x hx => by have := h x hx; simp; omega)]
theorem dues_rs : ∀ {L : List Inv} (_ : ∀ x ∈ L, 0 ≤ x.reserve ∧ 0 ≤ x.net ∧ x.due = x.reserve + x.net ∧ x.due ≤ 1000000), (dues L).sum = ((rsum L + usum L : Nat) : Int)
  | [], _ => rfl
  | x :: r, h => by
    have ih := dues_rs (L := r) fun y hy => h y (List.mem_cons_of_mem _ hy)
    obtain ⟨h1, h2, h3, h4⟩ := h x List.mem_cons_self
    have e1 := dues_all (L := r) fun y hy => by have := h y (List.mem_cons_of_mem _ hy); omega
    have e2 := dues_all (L := x :: r) fun y hy => by have := h y hy; omega
    rw [e1] at ih
    rw [e2, List.map_cons, List.sum_cons, ih]
    simp only [rsum, usum, List.map_cons, List.sum_cons]
    omega
theorem rsum_le : ∀ {L : List Inv} (_ : ∀ x ∈ L, 0 ≤ x.reserve ∧ 0 ≤ x.net ∧ x.due = x.reserve + x.net ∧ x.due ≤ 1000000), rsum L ≤ L.length * 1000000 ∧ usum L ≤ L.length * 1000000
  | [], _ => ⟨Nat.zero_le _, Nat.zero_le _⟩
  | x :: r, h => by
    have ih := rsum_le (L := r) fun y hy => h y (List.mem_cons_of_mem _ hy)
    obtain ⟨h1, h2, h3, h4⟩ := h x List.mem_cons_self
    simp only [rsum, usum, List.map_cons, List.sum_cons, List.length_cons] at ih ⊢
    omega
theorem invsR_parts {ps : List Prod} {bs : List Bid} {won : List (Nat → Int)} {net : List Frc} {L : List Inv} (h : invsR ps bs won net = .ok L) : rosE bs = 0 ∧ won.length = bs.length ∧ net.length = bs.length ∧ invsGo ps bs won net bs.length = .ok L := by
  unfold invsR at h
  repeat' split at h
  all_goals first
    | (cases h; done)
    | skip
  rename_i h1 h2 h3
  exact ⟨by omega, by omega, by omega, h⟩
theorem invsR_ne {ps : List Prod} {bs : List Bid} {won : List (Nat → Int)} {net : List Frc} {e : Int} (h : invsR ps bs won net = .error e) : e ≠ 0 := by
  unfold invsR at h
  repeat' split at h
  · cases h; assumption
  · cases h; assumption
  · cases h; decide
  · generalize bs.length = m at h
    have go : ∀ {m : Nat}, invsGo ps bs won net m = .error e → e ≠ 0 := by
      intro m
      induction m with
      | zero => intro h; cases h
      | succ k ih =>
        intro h
        cases hk : invsGo ps bs won net k with
        | error e' => rw [invsGo, hk] at h; cases h; exact ih hk
        | ok L =>
          rw [invsGo_step hk] at h
          cases ha : invAt ps bs won net k with
          | error e' => rw [ha] at h; cases h; exact invR_ne ha
          | ok x => rw [ha] at h; cases h
    exact go h
/-- the differences' value: less than one for each invoice -/
theorem over_lt {a D g l : Nat} (hg : g = Nat.gcd a (1 * D)) (h0 : D ≠ 0) (h : a < l * D) : a / g * 1 < l * (1 * D / g) := by
  have h1 : 1 * D ≠ 0 := by omega
  have g0 : 0 < g := by rw [hg]; exact Nat.gcd_pos_of_pos_right _ (Nat.pos_of_ne_zero h1)
  have hx : g ∣ a := by rw [hg]; exact Nat.gcd_dvd_left _ _
  have hy : g ∣ 1 * D := by rw [hg]; exact Nat.gcd_dvd_right _ _
  obtain ⟨x, hx'⟩ := hx
  obtain ⟨y, hy'⟩ := hy
  rw [hx', hy', Nat.mul_div_cancel_left _ g0, Nat.mul_div_cancel_left _ g0, Nat.mul_one]
  have e : g * x < g * (l * y) := by
    rw [← hx', show g * (l * y) = l * (g * y) by rw [Nat.mul_left_comm], ← hy', Nat.one_mul]
    exact h
  exact Nat.lt_of_mul_lt_mul_left e
theorem over_len {net : List Frc} {R k N D rr : Nat} (h : Paid net R k N D) (h0 : D ≠ 0) (hk : k ≤ 8) (hr : rr ≤ 16000000) :
    (digs ((rr * D - N * 1) / Nat.gcd (rr * D - N * 1) (1 * D))).length ≤ 1000 ∧ (digs ((1 * D) / Nat.gcd (rr * D - N * 1) (1 * D))).length ≤ 1000 ∧ (1 * D) / Nat.gcd (rr * D - N * 1) (1 * D) ≠ 0 := by
  have e : B ^ (2 * k) ≤ B ^ 16 := Nat.pow_le_pow_right (by decide) (by omega)
  have hD : D ≤ B ^ 16 := Nat.le_trans h.hD e
  have h1 : 1 * D < B ^ 100 := by rw [Nat.one_mul]; exact Nat.lt_of_le_of_lt hD (Nat.pow_lt_pow_right (by decide) (by omega))
  have h2 : rr * D < B ^ 100 := by
    have a : rr * D ≤ B * B ^ 16 := Nat.mul_le_mul (by have : B = 4294967296 := rfl; omega) hD
    have b : B * B ^ 16 = B ^ 17 := by rw [Nat.pow_succ B 16, Nat.mul_comm]
    exact Nat.lt_of_le_of_lt (Nat.le_trans a (Nat.le_of_eq b)) (Nat.pow_lt_pow_right (by decide) (by omega))
  refine ⟨Nat.le_trans (digs_len_le (m := 100) ?_) (by decide), Nat.le_trans (digs_len_le (m := 100) ?_) (by decide), red_ne (by omega)⟩
  · exact Nat.lt_of_le_of_lt (Nat.div_le_self _ _) (Nat.lt_of_le_of_lt (Nat.sub_le _ _) h2)
  · exact Nat.lt_of_le_of_lt (Nat.div_le_self _ _) h1
end Go.Proofs.YthehchdonmmpaaaGreatDoor.St
