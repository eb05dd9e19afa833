/- Plain: what Check of a setup answers, and which units its set-asides leave open. Contracts of bundle.Meet, Within and Sub. Printed by gen_sew.py. Plain: which bundles a setup allows. -/
import Derived.Test.YtaikmgnpfbnjjaaGreatDoorPv12
import Derived.Test.YtaikmgnpfbnjjaaGreatDoorPv06
import Derived.Deep.QuietTactic
import Derived.BigQuiet
import Derived.Deep.RegionHeld3
namespace Go.Proofs.YtaikmgnpfbnjjaaGreatDoor.Se
open Go.ChangeShapes Go.WideShapes Go.ChangeAt Go.RowKit Gn Cat Lex Ros
set_option linter.unusedVariables false
set_option linter.unusedSimpArgs false
/-- a cap, a set-aside: three numbers -/
structure Cp where
  bidder : Int
  group : Int
  units : Int
structure Asd where
  prod : Int
  cls : Int
  units : Int
abbrev Cp.cells (x : Cp) : List Value := [.int .i64 x.bidder, .int .i64 x.group, .int .i64 x.units]
abbrev Asd.cells (x : Asd) : List Value := [.int .i64 x.prod, .int .i64 x.cls, .int .i64 x.units]
theorem cp_len (x : Cp) : x.cells.length = 3 := rfl
theorem asd_len (x : Asd) : x.cells.length = 3 := rfl
abbrev CapS (w : World) (v : Value) (l : List Cp) : Prop := Sl w 3 v l.length (l.flatMap Cp.cells)
abbrev AsdS (w : World) (v : Value) (l : List Asd) : Prop := Sl w 3 v l.length (l.flatMap Asd.cells)
/-- the error of cap number i, behind those before it -/
def capOne (nb : Nat) (l : List Cp) (i : Nat) (c : Cp) : Int :=
  if c.bidder < -1 ∨ (nb : Int) ≤ c.bidder then 6
  else if c.group < 0 ∨ 4 < c.group ∨ c.units < 0 ∨ 24 < c.units then 4
  else if (l.take i).any (fun d => d.bidder == c.bidder && d.group == c.group) = true then 7 else 0
def asdOne (ps : List Prod) (l : List Asd) (i : Nat) (a : Asd) : Int :=
  if a.prod < 0 ∨ (ps.length : Int) ≤ a.prod then 6
  else if a.cls < 1 ∨ 4 < a.cls ∨ a.units < 1 ∨ (ps.getD a.prod.toNat Prod.none).supply < a.units then 4
  else if (l.take i).any (fun d => d.prod == a.prod) = true then 7 else 0
/-- the first error of the elements from number k on, of m that are left -/
def firstE (f : Nat → Int) (k : Nat) : Nat → Int
  | 0 => 0
  | m + 1 => if f k ≠ 0 then f k else firstE f (k + 1) m
theorem firstE_step {f : Nat → Int} {k m : Nat} (h : f k = 0) : firstE f k (m + 1) = firstE f (k + 1) m := by
  rw [firstE, if_neg (fun h2 => h2 h)]
theorem firstE_stop {f : Nat → Int} {k m : Nat} (h : f k ≠ 0) : firstE f k (m + 1) = f k := by
  rw [firstE, if_pos h]
theorem firstE_zero {f : Nat → Int} : ∀ {m k : Nat}, firstE f k m = 0 → ∀ j, k ≤ j → j < k + m → f j = 0
  | 0, k, _, j, h1, h2 => absurd h2 (by omega)
  | m + 1, k, h, j, h1, h2 => by
    by_cases h0 : f k = 0
    · rw [firstE_step h0] at h
      by_cases e : j = k
      · rw [e]; exact h0
      · exact firstE_zero h j (by omega) (by omega)
    · rw [firstE_stop h0] at h
      exact absurd h h0
def capsE (nb : Nat) (l : List Cp) : Int := if 16 < l.length then 3 else firstE (fun i => capOne nb l i (l.getD i ⟨0, 0, 0⟩)) 0 l.length
def asdsE (ps : List Prod) (l : List Asd) : Int := if 6 < l.length then 3 else firstE (fun i => asdOne ps l i (l.getD i ⟨0, 0, 0⟩)) 0 l.length
/-- the error of a setup -/
def setE (ps : List Prod) (bs : List Bid) (cs : List Cp) (ad : List Asd) : Int :=
  if checkE ps ≠ 0 then checkE ps
  else if rosE bs ≠ 0 then rosE bs
  else if capsE bs.length cs ≠ 0 then capsE bs.length cs
  else asdsE ps ad
/-- the units that are open, and the classes of the set-asides -/
def openF (ps : List Prod) (ad : List Asd) : Nat → Int := ad.foldl (fun p a => upd p a.prod.toNat (p a.prod.toNat - a.units)) (supP ps)
def clsF (ad : List Asd) : Nat → Int := ad.foldl (fun p a => upd p a.prod.toNat a.cls) zero6
theorem openF_take {ps : List Prod} {ad : List Asd} {k : Nat} (h : k < ad.length) : openF ps (ad.take (k + 1)) = upd (openF ps (ad.take k)) ad[k].prod.toNat (openF ps (ad.take k) ad[k].prod.toNat - ad[k].units) := by
  unfold openF
  rw [List.take_succ_eq_append_getElem h, List.foldl_append]
  rfl
theorem clsF_take {ad : List Asd} {k : Nat} (h : k < ad.length) : clsF (ad.take (k + 1)) = upd (clsF (ad.take k)) ad[k].prod.toNat ad[k].cls := by
  unfold clsF
  rw [List.take_succ_eq_append_getElem h, List.foldl_append]
  rfl
theorem setE_parts {ps : List Prod} {bs : List Bid} {cs : List Cp} {ad : List Asd} (h : setE ps bs cs ad = 0) : checkE ps = 0 ∧ rosE bs = 0 ∧ capsE bs.length cs = 0 ∧ asdsE ps ad = 0 := by
  unfold setE at h
  split at h
  · rename_i h1; exact absurd h h1
  · rename_i h1
    split at h
    · rename_i h2; exact absurd h h2
    · rename_i h2
      split at h
      · rename_i h3; exact absurd h h3
      · rename_i h3
        exact ⟨Decidable.of_not_not h1, Decidable.of_not_not h2, Decidable.of_not_not h3, h⟩
theorem asdsE_parts {ps : List Prod} {ad : List Asd} (h : asdsE ps ad = 0) : ad.length ≤ 6 ∧ ∀ i (hi : i < ad.length), (0 ≤ ad[i].prod ∧ ad[i].prod < (ps.length : Int)) ∧ (1 ≤ ad[i].cls ∧ ad[i].cls ≤ 4) ∧ (1 ≤ ad[i].units ∧ ad[i].units ≤ (ps.getD ad[i].prod.toNat Prod.none).supply) ∧ (∀ d ∈ ad.take i, d.prod ≠ ad[i].prod) := by
  unfold asdsE at h
  split at h
  · cases h
  · rename_i h6
    refine ⟨by omega, fun i hi => ?_⟩
    have h0 := firstE_zero h i (by omega) (by omega)
    simp only [show ad.getD i ⟨0, 0, 0⟩ = ad[i] by simp [List.getD, hi]] at h0
    unfold asdOne at h0
    split at h0
    · cases h0
    · split at h0
      · cases h0
      · split at h0
        · cases h0
        · rename_i h1 h2 h3
          rw [List.any_eq_true] at h3
          exact ⟨⟨by omega, by omega⟩, ⟨by omega, by omega⟩, ⟨by omega, by omega⟩, fun d hd e => h3 ⟨d, hd, by rw [e]; exact beq_self_eq_true _⟩⟩
theorem capsE_parts {nb : Nat} {cs : List Cp} (h : capsE nb cs = 0) : cs.length ≤ 16 ∧ ∀ i (hi : i < cs.length), (-1 ≤ cs[i].bidder ∧ cs[i].bidder < (nb : Int)) ∧ (0 ≤ cs[i].group ∧ cs[i].group ≤ 4) ∧ (0 ≤ cs[i].units ∧ cs[i].units ≤ 24) := by
  unfold capsE at h
  split at h
  · cases h
  · rename_i h6
    refine ⟨by omega, fun i hi => ?_⟩
    have h0 := firstE_zero h i (by omega) (by omega)
    simp only [show cs.getD i ⟨0, 0, 0⟩ = cs[i] by simp [List.getD, hi]] at h0
    unfold capOne at h0
    split at h0
    · cases h0
    · split at h0
      · cases h0
      · exact ⟨⟨by omega, by omega⟩, ⟨by omega, by omega⟩, by omega, by omega⟩
/-- the open units are none below zero, where the set-asides are right -/
theorem openF_nonneg {ps : List Prod} {ad : List Asd} (hg : checkGo ps ps 0 = 0) (h : asdsE ps ad = 0) (h6 : ps.length ≤ 6) : ∀ i, i ≤ ad.length → ∀ k, 0 ≤ openF ps (ad.take i) k ∧ openF ps (ad.take i) k ≤ 4 ∧ ((∀ a ∈ ad.take i, a.prod ≠ (k : Int)) → openF ps (ad.take i) k = supP ps k)
  | 0, _, k => by
    have h0 : openF ps (ad.take 0) = supP ps := by rw [List.take_zero]; rfl
    rw [h0]
    have : 0 ≤ supP ps k ∧ supP ps k ≤ 4 := by
      unfold supP startP
      split
      · exact supI_range hg k
      · omega
    exact ⟨this.1, this.2, fun _ => rfl⟩
  | i + 1, hi, k => by
    have ih := openF_nonneg hg h h6 i (by omega)
    obtain ⟨⟨a1, a2⟩, _, ⟨a3, a4⟩, a5⟩ := (asdsE_parts h).2 i (by omega)
    rw [openF_take (by omega)]
    have ht : ad.take (i + 1) = ad.take i ++ [ad[i]] := List.take_succ_eq_append_getElem (by omega)
    unfold upd
    by_cases e : k = ad[i].prod.toNat
    · rw [if_pos e]
      have hs := (ih ad[i].prod.toNat).2.2 (fun a ha e2 => a5 a ha (by omega))
      have h2 := ih ad[i].prod.toNat
      rw [hs]
      have hsup : supP ps ad[i].prod.toNat = (ps.getD ad[i].prod.toNat Prod.none).supply := by
        unfold supP startP
        rw [if_pos (by omega)]
        rfl
      refine ⟨by omega, by omega, fun hall => ?_⟩
      exact absurd (show ad[i].prod = (k : Int) by omega) (hall ad[i] (by rw [ht]; exact List.mem_append_right _ (List.mem_singleton.2 rfl)))
    · rw [if_neg e]
      exact ⟨(ih k).1, (ih k).2.1, fun hall => (ih k).2.2 fun a ha => hall a (by rw [ht]; exact List.mem_append_left _ ha)⟩
end Go.Proofs.YtaikmgnpfbnjjaaGreatDoor.Se
namespace Go.Proofs.YtaikmgnpfbnjjaaGreatDoor.Se
open Go.ChangeShapes Go.WideShapes Go.ChangeAt Go.RowKit Cat Lex
set_option linter.unusedVariables false
set_option linter.unusedSimpArgs false
def within6 (a b : Nat → Int) : Bool := (List.range 6).all fun i => decide (a i ≤ b i)
theorem within6_iff {a b : Nat → Int} : within6 a b = true ↔ ∀ i, i < 6 → a i ≤ b i := by
  unfold within6
  simp only [List.all_eq_true, List.mem_range, decide_eq_true_eq]
def meetP (k : Nat) (a b : Nat → Int) : Nat → Int := fun j => if j < k then min (a j) (b j) else a j
theorem meet_step (k : Nat) (a b : Nat → Int) (j : Nat) : (if j = k then min (a k) (b k) else meetP k a b j) = meetP (k + 1) a b j := by
  unfold meetP
  by_cases h : j = k
  · subst h; rw [if_pos rfl, if_pos (by omega)]
  · rw [if_neg h]
    by_cases h2 : j < k
    · rw [if_pos h2, if_pos (by omega)]
    · rw [if_neg h2, if_neg (by omega)]
theorem meet_at (k : Nat) (a b : Nat → Int) : meetP k a b k = a k := by unfold meetP; rw [if_neg (by omega)]
theorem within_eq (a b : Nat → Int) : eq6 (meetP 6 a b) a = within6 a b := by
  by_cases h : within6 a b = true
  · rw [h, eq6_iff]
    intro k hk
    have := within6_iff.1 h k hk
    unfold meetP
    rw [if_pos hk]
    omega
  · rw [Bool.not_eq_true] at h
    rw [h]
    cases e : eq6 (meetP 6 a b) a with
    | false => rfl
    | true =>
      rw [← h]
      symm
      apply within6_iff.2
      intro k hk
      have := (eq6_iff _ _).1 e k hk
      unfold meetP at this
      rw [if_pos hk] at this
      omega
structure MMid (w wr : World) (b p : Nat → Int) : Prop where
  a : Box wr w.heap.size p
  b : Box wr (w.heap.size + 1) b
  res : Box wr (w.heap.size + 2) zero6
  bel : Below w.heap.size w wr
theorem mmid_new (w : World) (T1 T2 T3 : TypeId) (a b : Nat → Int) : MMid w (((w.alloc (.cells (arr a) T1)).alloc (.cells (arr b) T2)).alloc (.cells (arr zero6) T3)) b (meetP 0 a b) := by
  have e1 : (w.alloc (.cells (arr a) T1)).heap.size = w.heap.size + 1 := World.size_alloc _ _
  have e2 : ((w.alloc (.cells (arr a) T1)).alloc (.cells (arr b) T2)).heap.size = w.heap.size + 2 := by rw [World.size_alloc, e1]
  refine ⟨(((box_new w a T1).alloc _).alloc _).congr (fun k _ => by unfold meetP; rw [if_neg (by omega)]), ?_, ?_, ?_⟩
  · have := (box_new (w.alloc (.cells (arr a) T1)) b T2).alloc (.cells (arr zero6) T3)
    rw [e1] at this
    exact this
  · have := box_new ((w.alloc (.cells (arr a) T1)).alloc (.cells (arr b) T2)) zero6 T3
    rw [e2] at this
    exact this
  · exact (((Below.refl w.heap.size w).alloc (Nat.le_refl _) _).alloc (by rw [e1]; omega) _).alloc (by rw [e2]; omega) _
theorem MMid.put {w wr : World} {b p : Nat → Int} (h : MMid w wr b p) (k : Nat) (hk : k < 6) (v : Int) : MMid w (wr.setCell ⟨w.heap.size, k, none⟩ (.int .i64 v)) b (fun j => if j = k then v else p j) :=
  ⟨h.a.set k hk v, h.b.other (by omega) _, h.res.other (by omega) _, h.bel.setCell (Nat.le_refl _) _⟩
theorem MMid.same {w wr : World} {b p q : Nat → Int} (h : MMid w wr b p) (he : ∀ k, k < 6 → p k = q k) : MMid w wr b q := ⟨h.a.congr he, h.b, h.res, h.bel⟩
theorem MMid.drew {w wr : World} {b p : Nat → Int} (h : MMid w wr b p) : MMid w wr.drew b p := ⟨h.a.drew, h.b.drew, h.res.drew, h.bel.drew⟩
def subP (k : Nat) (a b : Nat → Int) : Nat → Int := fun j => if j < k then a j - b j else a j
theorem sub_step (k : Nat) (a b : Nat → Int) (j : Nat) : (if j = k then a k - b k else subP k a b j) = subP (k + 1) a b j := by
  unfold subP
  by_cases h : j = k
  · subst h; rw [if_pos rfl, if_pos (by omega)]
  · rw [if_neg h]
    by_cases h2 : j < k
    · rw [if_pos h2, if_pos (by omega)]
    · rw [if_neg h2, if_neg (by omega)]
theorem sub_at (k : Nat) (a b : Nat → Int) : subP k a b k = a k := by unfold subP; rw [if_neg (by omega)]
theorem smid0_new (w : World) (T1 T2 T3 : TypeId) (a b : Nat → Int) : MMid w (((w.alloc (.cells (arr a) T1)).alloc (.cells (arr b) T2)).alloc (.cells (arr zero6) T3)) b (subP 0 a b) := (mmid_new w T1 T2 T3 a b).same fun k _ => by unfold meetP subP; rw [if_neg (by omega), if_neg (by omega)]
end Go.Proofs.YtaikmgnpfbnjjaaGreatDoor.Se
namespace Go.Proofs.YtaikmgnpfbnjjaaGreatDoor.Se
open Go.ChangeShapes Go.WideShapes Go.ChangeAt Go.RowKit Gn Cat Lex Ros
set_option linter.unusedVariables false
set_option linter.unusedSimpArgs false
/-- a setup -/
structure SetD where
  ps : List Prod
  bs : List Bid
  cs : List Cp
  ad : List Asd
def SetD.none : SetD := ⟨[], [], [], []⟩
abbrev SetD.err (S : SetD) : Int := setE S.ps S.bs S.cs S.ad
def openS (S : SetD) : Nat → Int := if S.err = 0 then openF S.ps S.ad else zero6
def clsS (S : SetD) : Nat → Int := if S.err = 0 then clsF S.ad else zero6
def clsOf (S : SetD) (i : Int) : Int := (S.bs.getD i.toNat Bid.none).cls
/-- units that count for the open units -/
def outP (k6 : Nat → Int) (c : Int) (b : Nat → Int) (k : Nat) : Int := if k6 k = 0 ∨ k6 k = c then 0 else b k
/-- does a cap bind? -/
def capHit (ps : List Prod) (i : Int) (b : Nat → Int) (c : Cp) : Bool := (decide (c.bidder = -1) || decide (c.bidder = i)) && decide (c.units < sumE (gw c.group) b ps)
/-- Allowed for a valid setup -/
def allowE (S : SetD) (i : Int) (b : Nat → Int) : Int :=
  if i < 0 ∨ (S.bs.length : Int) ≤ i then 6
  else if validB b = false then 4
  else if within6 b (supP S.ps) = false then 14
  else if within6 (outP (clsF S.ad) (clsOf S i) b) (openF S.ps S.ad) = false then 14
  else if S.cs.any (capHit S.ps i b) = true then 14 else 0
def allowedE (S : SetD) (i : Int) (b : Nat → Int) : Int := if S.err ≠ 0 then S.err else allowE S i b
/-- the first error of the bundles -/
def allE (S : SetD) (l : List (Nat → Int)) : Int := firstE (fun i => allowE S (i : Int) (l.getD i zero6)) 0 l.length
/-- the sums of the first bundles -/
def sumL (l : List (Nat → Int)) (n k : Nat) : Int := ((l.take n).map fun b => b k).sum
def outL (S : SetD) (l : List (Nat → Int)) : Nat → Nat → Int
  | 0, _ => 0
  | n + 1, k => outL S l n k + outP (clsF S.ad) (clsOf S (n : Int)) (l.getD n zero6) k
theorem sumL_zero (l : List (Nat → Int)) (k : Nat) : sumL l 0 k = 0 := rfl
theorem sumL_succ {l : List (Nat → Int)} {n : Nat} (h : n < l.length) (k : Nat) : sumL l (n + 1) k = sumL l n k + l.getD n zero6 k := by
  unfold sumL
  rw [List.take_succ_eq_append_getElem h, List.map_append, List.sum_append]
  simp [List.getD, h]
/-- too many units of product k are sold -/
def over (S : SetD) (l : List (Nat → Int)) (n k : Nat) : Bool := decide (supP S.ps k < sumL l n k) || decide (openF S.ps S.ad k < outL S l n k)
def overAny (S : SetD) (l : List (Nat → Int)) : Bool := (List.range 6).any (over S l l.length)
def feasE (S : SetD) (l : List (Nat → Int)) : Int :=
  if S.err ≠ 0 then S.err
  else if l.length ≠ S.bs.length then 3
  else if allE S l ≠ 0 then allE S l
  else if overAny S l = true then 14 else 0
def restS (S : SetD) (l : List (Nat → Int)) : Nat → Int := if feasE S l = 0 then fun k => supP S.ps k - sumL l l.length k else zero6
/-- what a bundle that is allowed obeys -/
theorem allowE_zero {S : SetD} {i : Int} {b : Nat → Int} (h : allowE S i b = 0) : (0 ≤ i ∧ i < (S.bs.length : Int)) ∧ (∀ k, k < 6 → 0 ≤ b k ∧ b k ≤ 4) ∧ (∀ k, k < 6 → b k ≤ supP S.ps k) ∧ (∀ k, k < 6 → outP (clsF S.ad) (clsOf S i) b k ≤ openF S.ps S.ad k) ∧ ∀ c ∈ S.cs, capHit S.ps i b c = false := by
  unfold allowE at h
  split at h
  · cases h
  · split at h
    · cases h
    · split at h
      · cases h
      · split at h
        · cases h
        · split at h
          · cases h
          · rename_i h1 h2 h3 h4 h5
            rw [Bool.not_eq_false] at h2 h3 h4
            rw [Bool.not_eq_true, List.any_eq_false] at h5
            exact ⟨⟨by omega, by omega⟩, validB_iff.1 h2, within6_iff.1 h3, within6_iff.1 h4, fun c hc => by simpa using h5 c hc⟩
theorem allowE_of {S : SetD} {i : Int} {b : Nat → Int} (h0 : 0 ≤ i ∧ i < (S.bs.length : Int)) (h1 : ∀ k, k < 6 → 0 ≤ b k ∧ b k ≤ 4) (h2 : ∀ k, k < 6 → b k ≤ supP S.ps k) (h3 : ∀ k, k < 6 → outP (clsF S.ad) (clsOf S i) b k ≤ openF S.ps S.ad k) (h4 : ∀ c ∈ S.cs, capHit S.ps i b c = false) : allowE S i b = 0 := by
  unfold allowE
  rw [if_neg (by omega), if_neg (by rw [Bool.not_eq_false]; exact validB_iff.2 h1), if_neg (by rw [Bool.not_eq_false]; exact within6_iff.2 h2), if_neg (by rw [Bool.not_eq_false]; exact within6_iff.2 h3), if_neg]
  rw [Bool.not_eq_true, List.any_eq_false]
  exact fun c hc => by rw [h4 c hc]; simp
theorem getD_at (l : List (Nat → Int)) (i : Nat) (h : i < l.length) : l.getD i zero6 = l[i] := by simp [List.getD, h]
theorem allE_zero {S : SetD} {l : List (Nat → Int)} (h : allE S l = 0) (i : Nat) (hi : i < l.length) : allowE S (i : Int) (l.getD i zero6) = 0 := firstE_zero h i (by omega) (by omega)
theorem outP_bounds {k6 : Nat → Int} {c : Int} {b : Nat → Int} (h : ∀ k, k < 6 → 0 ≤ b k ∧ b k ≤ 4) (k : Nat) (hk : k < 6) : 0 ≤ outP k6 c b k ∧ outP k6 c b k ≤ b k := by
  have := h k hk
  unfold outP
  split <;> omega
/-- sums of allowed bundles: bounds, and more bundles have more units -/
theorem sumL_bounds {S : SetD} {l : List (Nat → Int)} (h : allE S l = 0) (k : Nat) (hk : k < 6) : ∀ n, n ≤ l.length → (0 ≤ sumL l n k ∧ sumL l n k ≤ 4 * n) ∧ (0 ≤ outL S l n k ∧ outL S l n k ≤ 4 * n)
  | 0, _ => by rw [sumL_zero]; simp [outL]
  | n + 1, hn => by
    have ih := sumL_bounds h k hk n (by omega)
    have hb := (allowE_zero (allE_zero h n (by omega))).2.1
    have h1 := hb k hk
    have h2 := outP_bounds (k6 := clsF S.ad) (c := clsOf S (n : Int)) hb k hk
    rw [sumL_succ (by omega), outL]
    omega
theorem over_mono {S : SetD} {l : List (Nat → Int)} (h : allE S l = 0) {k : Nat} (hk : k < 6) {n : Nat} (ho : over S l n k = true) : ∀ m, n ≤ m → m ≤ l.length → over S l m k = true
  | 0, h1, _ => by
    obtain rfl : n = 0 := by omega
    exact ho
  | m + 1, h1, h2 => by
    by_cases e : n = m + 1
    · rw [← e]; exact ho
    · have ih := over_mono h hk ho m (by omega) (by omega)
      have hb := (allowE_zero (allE_zero h m (by omega))).2.1
      have b1 := hb k hk
      have b2 := outP_bounds (k6 := clsF S.ad) (c := clsOf S (m : Int)) hb k hk
      unfold over at ih ⊢
      rw [sumL_succ (by omega), outL]
      simp only [Bool.or_eq_true, decide_eq_true_eq] at ih ⊢
      omega
theorem over_any {S : SetD} {l : List (Nat → Int)} (h : allE S l = 0) {k : Nat} (hk : k < 6) {n : Nat} (hn : n ≤ l.length) (ho : over S l n k = true) : overAny S l = true := by
  unfold overAny
  rw [List.any_eq_true]
  exact ⟨k, List.mem_range.2 hk, over_mono h hk ho l.length hn (Nat.le_refl _)⟩
theorem over_none {S : SetD} {l : List (Nat → Int)} (h : ∀ k, k < 6 → over S l l.length k = false) : overAny S l = false := by
  unfold overAny
  rw [List.any_eq_false]
  intro k hk
  rw [h k (List.mem_range.1 hk)]
  simp
end Go.Proofs.YtaikmgnpfbnjjaaGreatDoor.Se
