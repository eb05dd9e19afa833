/- Plain: what Check of a setup answers, and which units its set-asides leave open. -/
import Derived.Test.YtjjlhihocllgjaaDoorPd05
namespace Go.Proofs.YtjjlhihocllgjaaDoor.Se
open Go.ChangeShapes Go.WideShapes Go.ChangeAt Go.RowKit Gn Cat Lex Ros
set_option linter.unusedVariables false
set_option linter.unusedSimpArgs false
/-- a cap, a set-aside: three numbers -/
structure Cp where
  bidder : Int
  group : Int
  units : Int
structure Asd where
  prod : Int
  cls : Int
  units : Int
abbrev Cp.cells (x : Cp) : List Value := [.int .i64 x.bidder, .int .i64 x.group, .int .i64 x.units]
abbrev Asd.cells (x : Asd) : List Value := [.int .i64 x.prod, .int .i64 x.cls, .int .i64 x.units]
theorem cp_len (x : Cp) : x.cells.length = 3 := rfl
theorem asd_len (x : Asd) : x.cells.length = 3 := rfl
abbrev CapS (w : World) (v : Value) (l : List Cp) : Prop := Sl w 3 v l.length (l.flatMap Cp.cells)
abbrev AsdS (w : World) (v : Value) (l : List Asd) : Prop := Sl w 3 v l.length (l.flatMap Asd.cells)
/-- the error of cap number i, behind those before it -/
def capOne (nb : Nat) (l : List Cp) (i : Nat) (c : Cp) : Int :=
  if c.bidder < -1 ∨ (nb : Int) ≤ c.bidder then 6
  else if c.group < 0 ∨ 4 < c.group ∨ c.units < 0 ∨ 24 < c.units then 4
  else if (l.take i).any (fun d => d.bidder == c.bidder && d.group == c.group) = true then 7 else 0
def asdOne (ps : List Prod) (l : List Asd) (i : Nat) (a : Asd) : Int :=
  if a.prod < 0 ∨ (ps.length : Int) ≤ a.prod then 6
  else if a.cls < 1 ∨ 4 < a.cls ∨ a.units < 1 ∨ (ps.getD a.prod.toNat Prod.none).supply < a.units then 4
  else if (l.take i).any (fun d => d.prod == a.prod) = true then 7 else 0
/-- the first error of the elements from number k on, of m that are left -/
def firstE (f : Nat → Int) (k : Nat) : Nat → Int
  | 0 => 0
  | m + 1 => if f k ≠ 0 then f k else firstE f (k + 1) m
theorem firstE_step {f : Nat → Int} {k m : Nat} (h : f k = 0) : firstE f k (m + 1) = firstE f (k + 1) m := by
  rw [firstE, if_neg (fun h2 => h2 h)]
theorem firstE_stop {f : Nat → Int} {k m : Nat} (h : f k ≠ 0) : firstE f k (m + 1) = f k := by
  rw [firstE, if_pos h]
theorem firstE_zero {f : Nat → Int} : ∀ {m k : Nat}, firstE f k m = 0 → ∀ j, k ≤ j → j < k + m → f j = 0
  | 0, k, _, j, h1, h2 => absurd h2 (by omega)
  | m + 1, k, h, j, h1, h2 => by
    by_cases h0 : f k = 0
    · rw [firstE_step h0] at h
      by_cases e : j = k
      · rw [e]; exact h0
      · exact firstE_zero h j (by omega) (by omega)
    · rw [firstE_stop h0] at h
      exact absurd h h0
def capsE (nb : Nat) (l : List Cp) : Int := if 16 < l.length then 3 else firstE (fun i => capOne nb l i (l.getD i ⟨0, 0, 0⟩)) 0 l.length
def asdsE (ps : List Prod) (l : List Asd) : Int := if 6 < l.length then 3 else firstE (fun i => asdOne ps l i (l.getD i ⟨0, 0, 0⟩)) 0 l.length
/-- the error of a setup -/
def setE (ps : List Prod) (bs : List Bid) (cs : List Cp) (ad : List Asd) : Int :=
  if checkE ps ≠ 0 then checkE ps
  else if rosE bs ≠ 0 then rosE bs
  else if capsE bs.length cs ≠ 0 then capsE bs.length cs
  else asdsE ps ad
/-- the units that are open, and the classes of the set-asides -/
def openF (ps : List Prod) (ad : List Asd) : Nat → Int := ad.foldl (fun p a => upd p a.prod.toNat (p a.prod.toNat - a.units)) (supP ps)
def clsF (ad : List Asd) : Nat → Int := ad.foldl (fun p a => upd p a.prod.toNat a.cls) zero6
theorem openF_take {ps : List Prod} {ad : List Asd} {k : Nat} (h : k < ad.length) : openF ps (ad.take (k + 1)) = upd (openF ps (ad.take k)) ad[k].prod.toNat (openF ps (ad.take k) ad[k].prod.toNat - ad[k].units) := by
  unfold openF
  rw [List.take_succ_eq_append_getElem h, List.foldl_append]
  rfl
theorem clsF_take {ad : List Asd} {k : Nat} (h : k < ad.length) : clsF (ad.take (k + 1)) = upd (clsF (ad.take k)) ad[k].prod.toNat ad[k].cls := by
  unfold clsF
  rw [List.take_succ_eq_append_getElem h, List.foldl_append]
  rfl
theorem setE_parts {ps : List Prod} {bs : List Bid} {cs : List Cp} {ad : List Asd} (h : setE ps bs cs ad = 0) : checkE ps = 0 ∧ rosE bs = 0 ∧ capsE bs.length cs = 0 ∧ asdsE ps ad = 0 := by
  unfold setE at h
  split at h
  · rename_i h1; exact absurd h h1
  · rename_i h1
    split at h
    · rename_i h2; exact absurd h h2
    · rename_i h2
      split at h
      · rename_i h3; exact absurd h h3
      · rename_i h3
        exact ⟨Decidable.of_not_not h1, Decidable.of_not_not h2, Decidable.of_not_not h3, h⟩
theorem asdsE_parts {ps : List Prod} {ad : List Asd} (h : asdsE ps ad = 0) : ad.length ≤ 6 ∧ ∀ i (hi : i < ad.length), (0 ≤ ad[i].prod ∧ ad[i].prod < (ps.length : Int)) ∧ (1 ≤ ad[i].cls ∧ ad[i].cls ≤ 4) ∧ (1 ≤ ad[i].units ∧ ad[i].units ≤ (ps.getD ad[i].prod.toNat Prod.none).supply) ∧ (∀ d ∈ ad.take i, d.prod ≠ ad[i].prod) := by
  unfold asdsE at h
  split at h
  · cases h
  · rename_i h6
    refine ⟨by omega, fun i hi => ?_⟩
    have h0 := firstE_zero h i (by omega) (by omega)
    simp only [show ad.getD i ⟨0, 0, 0⟩ = ad[i] by simp [List.getD, hi]] at h0
    unfold asdOne at h0
    split at h0
    · cases h0
    · split at h0
      · cases h0
      · split at h0
        · cases h0
        · rename_i h1 h2 h3
          rw [List.any_eq_true] at h3
          exact ⟨⟨by omega, by omega⟩, ⟨by omega, by omega⟩, ⟨by omega, by omega⟩, fun d hd e => h3 ⟨d, hd, by rw [e]; exact beq_self_eq_true _⟩⟩
theorem capsE_parts {nb : Nat} {cs : List Cp} (h : capsE nb cs = 0) : cs.length ≤ 16 ∧ ∀ i (hi : i < cs.length), (-1 ≤ cs[i].bidder ∧ cs[i].bidder < (nb : Int)) ∧ (0 ≤ cs[i].group ∧ cs[i].group ≤ 4) ∧ (0 ≤ cs[i].units ∧ cs[i].units ≤ 24) := by
  unfold capsE at h
  split at h
  · cases h
  · rename_i h6
    refine ⟨by omega, fun i hi => ?_⟩
    have h0 := firstE_zero h i (by omega) (by omega)
    simp only [show cs.getD i ⟨0, 0, 0⟩ = cs[i] by simp [List.getD, hi]] at h0
    unfold capOne at h0
    split at h0
    · cases h0
    · split at h0
      · cases h0
      · exact ⟨⟨by omega, by omega⟩, ⟨by omega, by omega⟩, by omega, by omega⟩
/-- the open units are none below zero, where the set-asides are right -/
theorem openF_nonneg {ps : List Prod} {ad : List Asd} (hg : checkGo ps ps 0 = 0) (h : asdsE ps ad = 0) (h6 : ps.length ≤ 6) : ∀ i, i ≤ ad.length → ∀ k, 0 ≤ openF ps (ad.take i) k ∧ openF ps (ad.take i) k ≤ 4 ∧ ((∀ a ∈ ad.take i, a.prod ≠ (k : Int)) → openF ps (ad.take i) k = supP ps k)
  | 0, _, k => by
    have h0 : openF ps (ad.take 0) = supP ps := by rw [List.take_zero]; rfl
    rw [h0]
    have : 0 ≤ supP ps k ∧ supP ps k ≤ 4 := by
      unfold supP startP
      split
      · exact supI_range hg k
      · omega
    exact ⟨this.1, this.2, fun _ => rfl⟩
  | i + 1, hi, k => by
    have ih := openF_nonneg hg h h6 i (by omega)
    obtain ⟨⟨a1, a2⟩, _, ⟨a3, a4⟩, a5⟩ := (asdsE_parts h).2 i (by omega)
    rw [openF_take (by omega)]
    have ht : ad.take (i + 1) = ad.take i ++ [ad[i]] := List.take_succ_eq_append_getElem (by omega)
    unfold upd
    by_cases e : k = ad[i].prod.toNat
    · rw [if_pos e]
      have hs := (ih ad[i].prod.toNat).2.2 (fun a ha e2 => a5 a ha (by omega))
      have h2 := ih ad[i].prod.toNat
      rw [hs]
      have hsup : supP ps ad[i].prod.toNat = (ps.getD ad[i].prod.toNat Prod.none).supply := by
        unfold supP startP
        rw [if_pos (by omega)]
        rfl
      refine ⟨by omega, by omega, fun hall => ?_⟩
      exact absurd (show ad[i].prod = (k : Int) by omega) (hall ad[i] (by rw [ht]; exact List.mem_append_right _ (List.mem_singleton.2 rfl)))
    · rw [if_neg e]
      exact ⟨(ih k).1, (ih k).2.1, fun hall => (ih k).2.2 fun a ha => hall a (by rw [ht]; exact List.mem_append_left _ ha)⟩
end Go.Proofs.YtjjlhihocllgjaaDoor.Se
