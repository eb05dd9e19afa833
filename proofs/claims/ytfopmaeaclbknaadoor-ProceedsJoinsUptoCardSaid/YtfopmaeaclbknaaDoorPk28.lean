/- Plain: who receives what of an invoice. Contracts of the law's copies of lists (sellers, shares, invoices). Printed by gen_pr1.py. -/
import Derived.Test.YtfopmaeaclbknaaDoorPk22
import Derived.Test.YtfopmaeaclbknaaDoorPk18
import Derived.Test.YtfopmaeaclbknaaDoorPk23
import Derived.Test.YtfopmaeaclbknaaDoorPk27
import Derived.Deep.RegionHeld3
namespace Go.Proofs.YtfopmaeaclbknaaDoor.Pr
open Go.ChangeShapes Go.WideShapes Go.ChangeAt Go.RowKit Gn Cat Lex So
set_option linter.unusedVariables false
set_option linter.unusedSimpArgs false
/-- the sum of f over the first products that seller i owns -/
def part (o : Own) (i : Nat) (f : Nat → Int) : Nat → Int
  | 0 => 0
  | k + 1 => part o i f k + if o k = some i then f k else 0
def listS (f : Nat → Int) (ps : List Int) : Int := (ps.map fun p => f p.toNat).sum
theorem part_put {o : Own} {m i j : Nat} {f : Nat → Int} (ho : o m = none) : ∀ n, part (o.put m i) j f n = part o j f n + if j = i ∧ m < n then f m else 0
  | 0 => by simp [part]
  | n + 1 => by
    rw [part, part, part_put ho n]
    by_cases e : n = m
    · subst e
      have h1 : (o.put n i) n = some i := by simp [Own.put]
      rw [h1, ho]
      by_cases h2 : j = i
      · subst h2
        simp
      · have h3 : ¬ i = j := fun h => h2 h.symm
        simp [h2, h3]
    · have h1 : (o.put m i) n = o n := by simp [Own.put, e]
      rw [h1]
      by_cases h2 : m < n
      · have h3 : m < n + 1 := by omega
        simp only [h2, h3, and_true]
        omega
      · have h3 : ¬ m < n + 1 := by omega
        simp only [h2, h3, and_false, if_false]
        omega
theorem takeP_ok {n i : Nat} : ∀ (ps : List Int) (o o' : Own), takeP n i ps o = .ok o' → (∀ p ∈ ps, 0 ≤ p ∧ p < (n : Int)) ∧ (∀ f j, part o' j f n = part o j f n + if j = i then listS f ps else 0) ∧ (∀ k j, o' k = some j → o k = some j ∨ j = i)
  | [], o, o', h => by
    injection h with h
    subst h
    exact ⟨(fun p hp => by cases hp), fun f j => by simp [listS], fun k j h => .inl h⟩
  | p :: r, o, o', h => by
    rw [takeP] at h
    split at h
    · cases h
    · rename_i h1
      split at h
      · cases h
      · rename_i h2
        have hp : 0 ≤ p ∧ p < (n : Int) := by omega
        have ho : o p.toNat = none := by cases hq : o p.toNat with | none => rfl | some z => rw [hq] at h2; exact absurd rfl h2
        obtain ⟨k1, k2, k3⟩ := takeP_ok r _ _ h
        refine ⟨fun q hq => ?_, fun f j => ?_, fun k j hk => ?_⟩
        · rcases List.mem_cons.1 hq with rfl | hq
          · exact hp
          · exact k1 q hq
        · rw [k2, part_put ho]
          have hlt : p.toNat < n := by omega
          have e : listS f (p :: r) = f p.toNat + listS f r := by simp [listS]
          by_cases hj : j = i
          · simp only [hj, hlt, and_self, if_true, e]
            omega
          · simp only [hj, false_and, if_false]
            omega
        · rcases k3 k j hk with h5 | h5
          · by_cases e : k = p.toNat
            · subst e
              simp [Own.put] at h5
              exact .inr h5.symm
            · exact .inl (by simpa [Own.put, e] using h5)
          · exact .inr h5
theorem ownGo_ok {n : Nat} {l : List Sel} : ∀ (r : List Sel) (i : Nat) (o o' : Own), ownGo n l r i o = .ok o' → (∀ x ∈ r, ∀ p ∈ x.ps, 0 ≤ p ∧ p < (n : Int)) ∧ (∀ f j, part o' j f n = part o j f n + if i ≤ j then listS f ((r[j - i]?.map Sel.ps).getD []) else 0) ∧ (∀ k j, o' k = some j → o k = some j ∨ (i ≤ j ∧ j < i + r.length))
  | [], i, o, o', h => by
    injection h with h
    subst h
    exact ⟨(fun x hx => by cases hx), fun f j => by simp [listS], fun k j h => .inl h⟩
  | x :: r, i, o, o', h => by
    rw [ownGo] at h
    split at h
    · split at h
      · cases h
      · cases ht : takeP n i x.ps o with
        | error e => rw [ht] at h; cases h
        | ok o1 =>
          rw [ht] at h
          obtain ⟨a1, a2, a3⟩ := takeP_ok _ _ _ ht
          obtain ⟨b1, b2, b3⟩ := ownGo_ok r (i + 1) o1 o' h
          refine ⟨fun y hy => ?_, fun f j => ?_, fun k j hk => ?_⟩
          · rcases List.mem_cons.1 hy with rfl | hy
            · exact a1
            · exact b1 y hy
          · rw [b2, a2]
            by_cases h1 : j = i
            · subst h1
              have h2 : ¬ j + 1 ≤ j := by omega
              simp only [h2, if_false, Nat.le_refl, if_true, Nat.sub_self]
              simp
            · by_cases h2 : i + 1 ≤ j
              · have h3 : i ≤ j := by omega
                have h4 : j - i = (j - (i + 1)) + 1 := by omega
                simp only [h1, h2, h3, if_false, if_true, h4, List.getElem?_cons_succ]
                omega
              · have h3 : ¬ i ≤ j := by omega
                simp only [h1, h2, h3, if_false]
                omega
          · rcases b3 k j hk with h5 | h5
            · rcases a3 k j h5 with h6 | h6
              · exact .inl h6
              · exact .inr (by simp; omega)
            · exact .inr (by simp; omega)
    · cases h
/-- what a list of sellers that is accepted says -/
structure OwnOk (n : Nat) (l : List Sel) (o : Own) : Prop where
  full : ∀ k, k < n → ∃ i, i < l.length ∧ o k = some i
  range : ∀ x ∈ l, ∀ p ∈ x.ps, 0 ≤ p ∧ p < (n : Int)
  sum : ∀ f i (h : i < l.length), part o i f n = listS f l[i].ps
theorem part_none (j : Nat) (f : Nat → Int) : ∀ n, part (fun _ => none) j f n = 0
  | 0 => rfl
  | n + 1 => by rw [part, part_none j f n]; simp
theorem ownR_ok {n : Nat} {l : List Sel} {o : Own} (h : ownR n l = .ok o) : OwnOk n l o := by
  unfold ownR at h
  cases hg : ownGo n l l 0 fun _ => none with
  | error e => rw [hg] at h; cases h
  | ok o1 =>
    rw [hg] at h
    unfold ownF at h
    split at h
    · rename_i x o2 e
      cases e
    · rename_i o2 e
      injection e with e
      subst e
      split at h
      · rename_i hf
        injection h with h
        subst h
        obtain ⟨b1, b2, b3⟩ := ownGo_ok _ _ _ _ hg
        refine ⟨fun k hk => ?_, b1, fun f i hi => ?_⟩
        · have := fullO_iff.1 hf k hk
          cases hq : o1 k with
          | none => rw [hq] at this; cases this
          | some i =>
            rcases b3 k i hq with h5 | h5
            · cases h5
            · exact ⟨i, by omega, rfl⟩
        · rw [b2, part_none]
          simp [hi]
      · cases h
theorem selR_ok {ps : List Prod} {l : List Sel} {o : Own} (h : selR ps l = .ok o) : checkE ps = 0 ∧ 0 < l.length ∧ l.length ≤ 6 ∧ ownR ps.length l = .ok o := by
  unfold selR at h
  split at h
  · rename_i h1
    split at h
    · cases h
    · split at h
      · cases h
      · exact ⟨h1, by omega, by omega, h⟩
  · cases h
theorem part_const {o : Own} {i : Nat} {f g : Nat → Int} : ∀ n, (∀ k, k < n → f k = g k) → part o i f n = part o i g n
  | 0, _ => rfl
  | n + 1, h => by rw [part, part, part_const n fun k hk => h k (by omega), h n (by omega)]
theorem part_range {o : Own} {i : Nat} {f : Nat → Int} {M : Int} (hM : 0 ≤ M) : ∀ n, (∀ k, k < n → 0 ≤ f k ∧ f k ≤ M) → 0 ≤ part o i f n ∧ part o i f n ≤ n * M
  | 0, _ => by simp [part]
  | n + 1, h => by
    have h1 := part_range (o := o) (i := i) hM n fun k hk => h k (by omega)
    have h2 := h n (by omega)
    have e : ((n + 1 : Nat) : Int) * M = n * M + M := by rw [Int.natCast_add, Int.add_mul]; simp
    rw [part, e]
    split <;> omega
theorem part_mono {o : Own} {i : Nat} {f : Nat → Int} {n k : Nat} (hk : k ≤ n) (h : ∀ k, k < n → 0 ≤ f k) : part o i f k ≤ part o i f n := by
  induction n with
  | zero => rw [Nat.le_zero.1 hk]; exact Int.le_refl _
  | succ n ih =>
    by_cases e : k = n + 1
    · rw [e]; exact Int.le_refl _
    · have := ih (by omega) fun k hk => h k (by omega)
      have h2 := h n (by omega)
      rw [part]
      split <;> omega
/-- the price of product k, and its weight -/
def resv (ps : List Prod) (k : Nat) : Int := (ps.getD k Prod.none).reserve
def fR (ps : List Prod) (b : Nat → Int) (k : Nat) : Int := b k * resv ps k
def fW (ps : List Prod) (b : Nat → Int) (k : Nat) : Int := b k * (resv ps k + 1)
theorem resv_range {ps : List Prod} (hz : checkE ps = 0) {k : Nat} (hk : k < ps.length) : 0 ≤ resv ps k ∧ resv ps k ≤ 1000000 := by
  have h := checkE_zero hz
  unfold resv
  rw [getD_prod ps k hk]
  have := rangeOk_iff.1 (checkGo_range ps 0 h.2.2 _ (List.getElem_mem hk)).1
  omega
theorem mul_range {a b : Int} {A B : Int} (h0 : 0 ≤ a) (h1 : a ≤ A) (h2 : 0 ≤ b) (h3 : b ≤ B) : 0 ≤ a * b ∧ a * b ≤ A * B :=
  ⟨Int.mul_nonneg h0 h2, Int.mul_le_mul h1 h3 h2 (by omega)⟩
theorem fR_range {ps : List Prod} {b : Nat → Int} (hz : checkE ps = 0) (hb : validB b = true) {k : Nat} (hk : k < ps.length) : 0 ≤ fR ps b k ∧ fR ps b k ≤ 4000000 := by
  have h := checkE_zero hz
  have h1 := validB_iff.1 hb k (by omega)
  have h2 := resv_range hz hk
  have := mul_range h1.1 h1.2 h2.1 h2.2
  unfold fR
  omega
theorem fW_range {ps : List Prod} {b : Nat → Int} (hz : checkE ps = 0) (hb : validB b = true) {k : Nat} (hk : k < ps.length) : 0 ≤ fW ps b k ∧ fW ps b k ≤ 4000004 := by
  have h := checkE_zero hz
  have h1 := validB_iff.1 hb k (by omega)
  have h2 := resv_range hz hk
  have := mul_range (b := resv ps k + 1) (B := 1000001) h1.1 h1.2 (by omega) (by omega)
  unfold fW
  omega
/-- the weight of a seller: at most a million -/
def wgt (o : Own) (ps : List Prod) (b : Nat → Int) (i k : Nat) : Int := min (part o i (fW ps b) k) 1000000
theorem wgt_succ {o : Own} {ps : List Prod} {b : Nat → Int} {i k : Nat} (h : 0 ≤ fW ps b k) : wgt o ps b i (k + 1) = if o k = some i then min (wgt o ps b i k + fW ps b k) 1000000 else wgt o ps b i k := by
  unfold wgt
  rw [part]
  by_cases e : o k = some i
  · rw [if_pos e, if_pos e]; omega
  · rw [if_neg e, if_neg e, Int.add_zero]
/-- the weights of all sellers -/
def wgts (o : Own) (ps : List Prod) (b : Nat → Int) (m : Nat) : List Nat := (List.range m).map fun i => (wgt o ps b i ps.length).toNat
theorem wgts_len {o : Own} {ps : List Prod} {b : Nat → Int} {m : Nat} : (wgts o ps b m).length = m := by simp [wgts]
theorem wgts_le {o : Own} {ps : List Prod} {b : Nat → Int} {m : Nat} : ∀ x ∈ wgts o ps b m, x ≤ 1000000 := by
  intro x hx
  obtain ⟨i, _, rfl⟩ := List.mem_map.1 hx
  unfold wgt
  omega
theorem wgt_range {o : Own} {ps : List Prod} {b : Nat → Int} (hz : checkE ps = 0) (hb : validB b = true) {i k : Nat} (hk : k ≤ ps.length) : 0 ≤ wgt o ps b i k ∧ wgt o ps b i k ≤ 1000000 := by
  have := part_range (o := o) (i := i) (f := fW ps b) (M := 4000004) (by omega) k fun q hq => fW_range hz hb (by omega)
  unfold wgt
  omega
theorem toI_wgts {o : Own} {ps : List Prod} {b : Nat → Int} {m : Nat} (hz : checkE ps = 0) (hb : validB b = true) : toI (wgts o ps b m) = (List.range m).map fun i => wgt o ps b i ps.length := by
  unfold toI wgts
  rw [List.map_map]
  refine List.map_congr_left fun i _ => ?_
  have := wgt_range (o := o) (i := i) hz hb (Nat.le_refl ps.length)
  simp only [Function.comp_apply]
  omega
theorem sum_pos_of {l : List Nat} {x : Nat} (hx : x ∈ l) (h : 0 < x) : 0 < l.sum := by
  induction l with
  | nil => cases hx
  | cons y l ih =>
    rw [List.sum_cons]
    rcases List.mem_cons.1 hx with rfl | hx
    · omega
    · have := ih hx; omega
theorem wgts_pos {o : Own} {ps : List Prod} {b : Nat → Int} {l : List Sel} (hz : checkE ps = 0) (ho : OwnOk ps.length l o) (hf : rfitsB b ps = true) (hne : eq6 b zero6 = false) : 0 < sumN (wgts o ps b l.length) (wgts o ps b l.length).length := by
  have hf2 : validB b = true ∧ tailB b ps.length = true := by
    unfold rfitsB fitsB at hf
    simpa [hz] using hf
  have hex : ∃ k, k < 6 ∧ b k ≠ 0 := by
    by_cases h : ∃ k, k < 6 ∧ b k ≠ 0
    · exact h
    · have : eq6 b zero6 = true := (eq6_iff _ _).2 fun k hk => by
        by_cases e : b k = 0
        · rw [e]; rfl
        · exact absurd ⟨k, hk, e⟩ h
      rw [this] at hne
      cases hne
  obtain ⟨k, hk, hbk⟩ := hex
  have hkn : k < ps.length := (tailB_iff.1 hf2.2 k hk).resolve_right hbk
  obtain ⟨i, hi, hoi⟩ := ho.full k hkn
  have hv := validB_iff.1 hf2.1 k hk
  have h1 : 1 ≤ fW ps b k := by
    have h2 := resv_range hz hkn
    have : 1 * 1 ≤ b k * (resv ps k + 1) := Int.mul_le_mul (by omega) (by omega) (by omega) (by omega)
    unfold fW
    omega
  have hm := part_mono (o := o) (i := i) (f := fW ps b) (n := ps.length) (k := k + 1) hkn fun q hq => (fW_range hz hf2.1 hq).1
  have h0 := part_range (o := o) (i := i) (f := fW ps b) (M := 4000004) (by omega) k fun q hq => fW_range hz hf2.1 (by omega)
  rw [part, if_pos hoi] at hm
  unfold sumN
  rw [List.take_length]
  refine sum_pos_of (x := (wgt o ps b i ps.length).toNat) (List.mem_map.2 ⟨i, List.mem_range.2 hi, rfl⟩) ?_
  unfold wgt
  omega
/-- an order of what is left -/
def leR (r : Nat → Nat) (x y : Nat) : Bool := decide (r y < r x ∨ (r x = r y ∧ x ≤ y))
def ordL (r : Nat → Nat) (n : Nat) : List Nat := (List.range n).mergeSort (leR r)
theorem ordL_ok (T : Nat) (W : List Nat) (S : Nat) : IsOrder T W S (ordL (rst T W S) W.length) := by
  have hp := List.mergeSort_perm (List.range W.length) (leR (rst T W S))
  refine ⟨hp, ?_⟩
  have hs := List.pairwise_mergeSort (le := leR (rst T W S)) (fun a b c => by simp only [leR, decide_eq_true_eq]; omega) (fun a b => by simp only [leR, Bool.or_eq_true, decide_eq_true_eq]; omega) (List.range W.length)
  have hn : (ordL (rst T W S) W.length).Nodup := hp.nodup_iff.2 List.nodup_range
  exact (hs.and hn).imp fun {a b} h => by
    obtain ⟨h1, h2⟩ := h
    simp only [leR, decide_eq_true_eq] at h1
    unfold So.LT
    omega
/-- the parts of a total by weights -/
def shareL (T : Nat) (W : List Nat) : List Nat := shares T W (sumN W W.length) (ordL (rst T W (sumN W W.length)) W.length)
theorem shareL_of {T : Nat} {W order : List Nat} (h : IsOrder T W (sumN W W.length) order) : shares T W (sumN W W.length) order = shareL T W := by
  unfold shareL
  rw [Am.order_is h (ordL_ok T W _)]
theorem shareL_len {T : Nat} {W : List Nat} : (shareL T W).length = W.length := shares_len
end Go.Proofs.YtfopmaeaclbknaaDoor.Pr
namespace Go.Proofs.YtfopmaeaclbknaaDoor.Pr
open Go.ChangeShapes Go.WideShapes Go.ChangeAt Go.RowKit Gn Cat Lex
set_option linter.unusedVariables false
set_option linter.unusedSimpArgs false
theorem sel_info : (Tryd.prog.info? 113).map (fun i => (i.zero, i.size, i.bytes)) = some (some (.agg #[.string ⟨#[]⟩, .slice none 0 0]), 2, 40) := by kernel_rfl
set_option maxHeartbeats 2000000 in
set_option maxRecDepth 100000 in
theorem sellers_any (l : List Sel) (v : Value) (w : World) (hl : l.length * 40 ≤ 140737488355328) (hv : SelOk w l) (h : SelS w v l) : Calls Tryd.prog 33 #[v] w fun e w' => ∃ v', e = .returned v' ∧ SelS w' v' l ∧ Below w.heap.size w w' := by
  obtain ⟨A, c, rfl, _, _, hr⟩ := sl_parts h
  obtain ⟨j0, hj0, hy0, hy1, hy2⟩ := info_parts sel_info
  have HR := Lib.hid hr
  have HL := Lib.hid hl
  have hl6 : (l.length : Int) ≤ 140737488355328 := by omega
  have HV := Lib.hid (fun (k : Nat) (hk : k < l.length) => sl_parts (hv _ (List.getElem_mem hk)).2)
  clear h hr hl
  clear hv
  go_enter Tryd.func33, Tryd.ntmps33
  go_wp2_with fail
  go_loopw [4, 3] (fun iv ov wr => ∃ (k : Nat) (A2 : Option Addr) (c2 : Nat), k ≤ l.length ∧ iv = .int .i64 (k : Int) ∧ ov = .slice A2 k c2 ∧ Hid (wr.ownsRow w.heap.size 113 2 (.slice A2 k c2) k ((l.take k).flatMap Sel.cells)) ∧ Hid (Below w.heap.size w wr)) (fun iv _ _ => l.length - (intOf iv).toNat)
  case atStart => exact ⟨0, none, 0, Nat.zero_le _, rfl, rfl, World.ownsRow_nil _ _ _ _, Below.refl _ _⟩
  case round =>
    obtain ⟨k, A2, c2, hk, rfl, rfl, HO, HB⟩ := hrel
    have hk0 : (0 : Int) ≤ (k : Int) := by omega
    by_cases hkn : k < l.length
    · have hd1 : decide (k < l.length) = true := decide_eq_true hkn
      have hd2 : decide ((k : Int) < (l.length : Int)) = true := decide_eq_true (by omega)
      have hkn1 : (k : Int) < (l.length : Int) := by omega
      have HK2 : Hid ((k + 1) * 40 ≤ 140737488355328) := by have := HL.out; show (k + 1) * 40 ≤ 140737488355328; omega
      obtain ⟨b, o, e1, hb, hrow⟩ := HR.out (by omega)
      subst e1
      have HAT := Lib.hid (fun W (bw : Below w.heap.size w W) => sel_at (hrow.below hb bw) k hkn)
      have hat := HAT.out _ HB.out
      have HT := Lib.hid (flat_take (c := Sel.cells) l k hkn)
      obtain ⟨Av, cv, hvf, _⟩ := HV.out k hkn
      generalize l[k] = p at *
      obtain ⟨pn, pv, pp⟩ := p; dsimp only at hvf; subst hvf
      clear hrow hb
      go_wp2_with fail
      go_region_law (refine step_append_own _ rfl (.tmp 11) (.tmp 23) _ rfl w.heap.size 113 j0 _ 2 40 Tryd.underlying58 hj0 hy0 hy1 hy2 rfl (by decide) (.slice A2 k c2) k ((l.take k).flatMap Sel.cells) rfl (by first | exact own_below (HO.out.alloc _) ((Below.refl _ _).drew) | exact (own_below HO.out ((Below.refl _ _).drew)).alloc _ | exact HO.out.alloc _) ⟨wr.heap.size, 0, none⟩ 1 1 [.string pn, .slice Av pp.length cv] rfl rfl (cells_new wr _ _) (by intro u hu; simp at hu; (first | (rcases hu with rfl | rfl <;> rfl) | (rcases hu with rfl | rfl | rfl <;> rfl) | (rcases hu with rfl | rfl | rfl | rfl | rfl | rfl | rfl | rfl | rfl | rfl <;> rfl))) (by have := HK2.out; unfold maxLen; omega) (by have := HK2.out; omega) (by have := HB.out.size; simp; omega) ?_; intro v' w2 hown hgr _; obtain ⟨A5, c5, rfl⟩ := Gn.own_form hown; have O5 := Lib.hid hown; have B5 : Hid (Below w.heap.size w w2) := (by first | exact (HB.out.alloc HB.out.size _).drew.grown hgr (by have := HB.out.size; simp; omega) (fun q hq => (HO.out.lt q hq).1) | exact (HB.out.drew.alloc HB.out.size _).grown hgr (by have := HB.out.size; simp; omega) (fun q hq => (HO.out.lt q hq).1) | exact (HB.out.alloc HB.out.size _).grown hgr (by have := HB.out.size; simp; omega) (fun q hq => (HO.out.lt q hq).1)); clear hown hgr)
      all_goals go_wp2_with fail
      all_goals exact ⟨⟨k + 1, A5, c5, hkn, by go_num, rfl, (by show World.ownsRow _ _ _ _ _ _ _; rw [HT.out]; exact O5.out), B5.out⟩, by simp [intOf]; omega⟩
    · obtain rfl : k = l.length := by omega
      have hd1 : decide (l.length < l.length) = false := decide_eq_false (Nat.lt_irrefl _)
      have hd2 : decide ((l.length : Int) < (l.length : Int)) = false := decide_eq_false (Int.lt_irrefl _)
      go_wp2_with fail
      go_ret
      exact ⟨_, rfl, by have := HO.out; rw [List.take_length] at this; exact Sl.of_own this, HB.out⟩
theorem shr_info : (Tryd.prog.info? 100).map (fun i => (i.zero, i.size, i.bytes)) = some (some (.agg #[.int .i64 0, .int .i64 0, .int .i64 0]), 3, 24) := by kernel_rfl
set_option maxHeartbeats 2000000 in
set_option maxRecDepth 100000 in
theorem shares_any (l : List Shr) (v : Value) (w : World) (hl : l.length * 24 ≤ 140737488355328) (h : ShrS w v l) : Calls Tryd.prog 36 #[v] w fun e w' => ∃ v', e = .returned v' ∧ ShrS w' v' l ∧ Below w.heap.size w w' := by
  obtain ⟨A, c, rfl, _, _, hr⟩ := sl_parts h
  obtain ⟨j0, hj0, hy0, hy1, hy2⟩ := info_parts shr_info
  have HR := Lib.hid hr
  have HL := Lib.hid hl
  have hl6 : (l.length : Int) ≤ 140737488355328 := by omega
  clear h hr hl
  go_enter Tryd.func36, Tryd.ntmps36
  go_wp2_with fail
  go_loopw [4, 3] (fun iv ov wr => ∃ (k : Nat) (A2 : Option Addr) (c2 : Nat), k ≤ l.length ∧ iv = .int .i64 (k : Int) ∧ ov = .slice A2 k c2 ∧ Hid (wr.ownsRow w.heap.size 100 3 (.slice A2 k c2) k ((l.take k).flatMap Shr.cells)) ∧ Hid (Below w.heap.size w wr)) (fun iv _ _ => l.length - (intOf iv).toNat)
  case atStart => exact ⟨0, none, 0, Nat.zero_le _, rfl, rfl, World.ownsRow_nil _ _ _ _, Below.refl _ _⟩
  case round =>
    obtain ⟨k, A2, c2, hk, rfl, rfl, HO, HB⟩ := hrel
    have hk0 : (0 : Int) ≤ (k : Int) := by omega
    by_cases hkn : k < l.length
    · have hd1 : decide (k < l.length) = true := decide_eq_true hkn
      have hd2 : decide ((k : Int) < (l.length : Int)) = true := decide_eq_true (by omega)
      have hkn1 : (k : Int) < (l.length : Int) := by omega
      have HK2 : Hid ((k + 1) * 24 ≤ 140737488355328) := by have := HL.out; show (k + 1) * 24 ≤ 140737488355328; omega
      obtain ⟨b, o, e1, hb, hrow⟩ := HR.out (by omega)
      subst e1
      have HAT := Lib.hid (fun W (bw : Below w.heap.size w W) => shr_at (hrow.below hb bw) k hkn)
      have hat := HAT.out _ HB.out
      have HT := Lib.hid (flat_take (c := Shr.cells) l k hkn)
      generalize l[k] = p at *
      clear hrow hb
      go_wp2_with fail
      go_region_law (refine step_append_own _ rfl (.tmp 11) (.tmp 28) _ rfl w.heap.size 100 j0 _ 3 24 Tryd.underlying55 hj0 hy0 hy1 hy2 rfl (by decide) (.slice A2 k c2) k ((l.take k).flatMap Shr.cells) rfl (by first | exact own_below (HO.out.alloc _) ((Below.refl _ _).drew) | exact (own_below HO.out ((Below.refl _ _).drew)).alloc _ | exact HO.out.alloc _) ⟨wr.heap.size, 0, none⟩ 1 1 [.int .i64 p.sel, .int .i64 p.reserve, .int .i64 p.net] rfl rfl (cells_new wr _ _) (by intro u hu; simp at hu; (first | (rcases hu with rfl | rfl <;> rfl) | (rcases hu with rfl | rfl | rfl <;> rfl) | (rcases hu with rfl | rfl | rfl | rfl | rfl | rfl | rfl | rfl | rfl | rfl <;> rfl))) (by have := HK2.out; unfold maxLen; omega) (by have := HK2.out; omega) (by have := HB.out.size; simp; omega) ?_; intro v' w2 hown hgr _; obtain ⟨A5, c5, rfl⟩ := Gn.own_form hown; have O5 := Lib.hid hown; have B5 : Hid (Below w.heap.size w w2) := (by first | exact (HB.out.alloc HB.out.size _).drew.grown hgr (by have := HB.out.size; simp; omega) (fun q hq => (HO.out.lt q hq).1) | exact (HB.out.drew.alloc HB.out.size _).grown hgr (by have := HB.out.size; simp; omega) (fun q hq => (HO.out.lt q hq).1) | exact (HB.out.alloc HB.out.size _).grown hgr (by have := HB.out.size; simp; omega) (fun q hq => (HO.out.lt q hq).1)); clear hown hgr)
      all_goals go_wp2_with fail
      all_goals exact ⟨⟨k + 1, A5, c5, hkn, by go_num, rfl, (by show World.ownsRow _ _ _ _ _ _ _; rw [HT.out]; exact O5.out), B5.out⟩, by simp [intOf]; omega⟩
    · obtain rfl : k = l.length := by omega
      have hd1 : decide (l.length < l.length) = false := decide_eq_false (Nat.lt_irrefl _)
      have hd2 : decide ((l.length : Int) < (l.length : Int)) = false := decide_eq_false (Int.lt_irrefl _)
      go_wp2_with fail
      go_ret
      exact ⟨_, rfl, by have := HO.out; rw [List.take_length] at this; exact Sl.of_own this, HB.out⟩
theorem inv_info : (Tryd.prog.info? 110).map (fun i => (i.zero, i.size, i.bytes)) = some (some (.agg #[.int .i64 0, .int .i64 0, .int .i64 0, .int .i64 0, .int .i64 0, .int .i64 0, .int .i64 0, .int .i64 0, .int .i64 0, .int .i64 0]), 10, 80) := by kernel_rfl
set_option maxHeartbeats 2000000 in
set_option maxRecDepth 100000 in
theorem invoices_any (l : List Inv) (v : Value) (w : World) (hl : l.length * 80 ≤ 140737488355328) (h : InvS w v l) : Calls Tryd.prog 34 #[v] w fun e w' => ∃ v', e = .returned v' ∧ InvS w' v' l ∧ Below w.heap.size w w' := by
  obtain ⟨A, c, rfl, _, _, hr⟩ := sl_parts h
  obtain ⟨j0, hj0, hy0, hy1, hy2⟩ := info_parts inv_info
  have HR := Lib.hid hr
  have HL := Lib.hid hl
  have hl6 : (l.length : Int) ≤ 140737488355328 := by omega
  clear h hr hl
  go_enter Tryd.func34, Tryd.ntmps34
  go_wp2_with fail
  go_loopw [4, 3] (fun iv ov wr => ∃ (k : Nat) (A2 : Option Addr) (c2 : Nat), k ≤ l.length ∧ iv = .int .i64 (k : Int) ∧ ov = .slice A2 k c2 ∧ Hid (wr.ownsRow w.heap.size 110 10 (.slice A2 k c2) k ((l.take k).flatMap Inv.cells)) ∧ Hid (Below w.heap.size w wr)) (fun iv _ _ => l.length - (intOf iv).toNat)
  case atStart => exact ⟨0, none, 0, Nat.zero_le _, rfl, rfl, World.ownsRow_nil _ _ _ _, Below.refl _ _⟩
  case round =>
    obtain ⟨k, A2, c2, hk, rfl, rfl, HO, HB⟩ := hrel
    have hk0 : (0 : Int) ≤ (k : Int) := by omega
    by_cases hkn : k < l.length
    · have hd1 : decide (k < l.length) = true := decide_eq_true hkn
      have hd2 : decide ((k : Int) < (l.length : Int)) = true := decide_eq_true (by omega)
      have hkn1 : (k : Int) < (l.length : Int) := by omega
      have HK2 : Hid ((k + 1) * 80 ≤ 140737488355328) := by have := HL.out; show (k + 1) * 80 ≤ 140737488355328; omega
      obtain ⟨b, o, e1, hb, hrow⟩ := HR.out (by omega)
      subst e1
      have HAT := Lib.hid (fun W (bw : Below w.heap.size w W) => inv_at (hrow.below hb bw) k hkn)
      have hat := HAT.out _ HB.out
      have HT := Lib.hid (flat_take (c := Inv.cells) l k hkn)
      generalize l[k] = p at *
      clear hrow hb
      go_wp2_with fail
      go_region_held3 (fun w' => w'.cell? ⟨b, o + k * 10, none⟩ = some (.int .i64 p.bidder) ∧ w'.cell? ⟨b, o + k * 10 + 1, none⟩ = some (.int .i64 (p.want 0)) ∧ w'.cell? ⟨b, o + k * 10 + 2, none⟩ = some (.int .i64 (p.want 1)) ∧ w'.cell? ⟨b, o + k * 10 + 3, none⟩ = some (.int .i64 (p.want 2)) ∧ w'.cell? ⟨b, o + k * 10 + 4, none⟩ = some (.int .i64 (p.want 3)) ∧ w'.cell? ⟨b, o + k * 10 + 5, none⟩ = some (.int .i64 (p.want 4)) ∧ w'.cell? ⟨b, o + k * 10 + 6, none⟩ = some (.int .i64 (p.want 5)) ∧ w'.cell? ⟨b, o + k * 10 + 7, none⟩ = some (.int .i64 p.reserve) ∧ w'.cell? ⟨b, o + k * 10 + 8, none⟩ = some (.int .i64 p.net) ∧ w'.cell? ⟨b, o + k * 10 + 9, none⟩ = some (.int .i64 p.due)) (first | exact HAT.out _ B5.out | exact HAT.out _ (HB.out.alloc HB.out.size _).drew | exact HAT.out _ HB.out.drew | exact HAT.out _ (HB.out.alloc HB.out.size _) | exact HAT.out _ (HB.out.drew.alloc HB.out.size _) | exact HAT.out _ HB.out | go_keep) ((refine step_append_own _ (by rfl) (.tmp 11) (.tmp 38) _ rfl w.heap.size 110 j0 _ 10 80 Tryd.underlying60 hj0 hy0 hy1 hy2 rfl (by decide) (.slice A2 k c2) k ((l.take k).flatMap Inv.cells) rfl (by first | exact own_below (HO.out.alloc _) ((Below.refl _ _).drew) | exact (own_below HO.out ((Below.refl _ _).drew)).alloc _ | exact HO.out.alloc _) ⟨wr.heap.size, 0, none⟩ 1 1 [.int .i64 p.bidder, .int .i64 (p.want 0), .int .i64 (p.want 1), .int .i64 (p.want 2), .int .i64 (p.want 3), .int .i64 (p.want 4), .int .i64 (p.want 5), .int .i64 p.reserve, .int .i64 p.net, .int .i64 p.due] rfl rfl (cells_new wr _ _) (by intro u hu; simp at hu; (rcases hu with rfl | rfl | rfl | rfl | rfl | rfl | rfl | rfl | rfl | rfl <;> rfl)) (by have := HK2.out; unfold maxLen; omega) (by have := HK2.out; omega) (by have := HB.out.size; simp; omega) ?_; intro v' w2 hown hgr _; obtain ⟨A5, c5, rfl⟩ := Gn.own_form hown; have O5 := Lib.hid hown; have B5 : Hid (Below w.heap.size w w2) := (by first | exact (HB.out.alloc HB.out.size _).drew.grown hgr (by have := HB.out.size; simp; omega) (fun q hq => (HO.out.lt q hq).1) | exact (HB.out.drew.alloc HB.out.size _).grown hgr (by have := HB.out.size; simp; omega) (fun q hq => (HO.out.lt q hq).1) | exact (HB.out.alloc HB.out.size _).grown hgr (by have := HB.out.size; simp; omega) (fun q hq => (HO.out.lt q hq).1)); clear hown hgr))
      all_goals go_wp2_with fail
      all_goals exact ⟨⟨k + 1, A5, c5, hkn, by go_num, rfl, (by show World.ownsRow _ _ _ _ _ _ _; rw [HT.out]; exact O5.out), B5.out⟩, by simp [intOf]; omega⟩
    · obtain rfl : k = l.length := by omega
      have hd1 : decide (l.length < l.length) = false := decide_eq_false (Nat.lt_irrefl _)
      have hd2 : decide ((l.length : Int) < (l.length : Int)) = false := decide_eq_false (Int.lt_irrefl _)
      go_wp2_with fail
      go_ret
      exact ⟨_, rfl, by have := HO.out; rw [List.take_length] at this; exact Sl.of_own this, HB.out⟩
end Go.Proofs.YtfopmaeaclbknaaDoor.Pr
