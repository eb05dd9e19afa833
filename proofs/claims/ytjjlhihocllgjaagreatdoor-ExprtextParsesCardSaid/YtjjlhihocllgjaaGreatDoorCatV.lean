/- Plain: Parse of Format is the bundle. -/
import Derived.Test.YtjjlhihocllgjaaGreatDoorPz12
import Derived.Test.YtjjlhihocllgjaaGreatDoorPz08
import Derived.Test.YtjjlhihocllgjaaGreatDoorLexG
namespace Go.Proofs.YtjjlhihocllgjaaGreatDoor
open Go.ChangeShapes Go.WideShapes Go.ChangeAt Go.RowKit
set_option linter.unusedVariables false
set_option linter.unusedSimpArgs false
namespace Cat
open Lex
/-- a product's name is found at its own place -/
theorem findFrom_take {name : ByteArray} : ∀ (l : List Prod) (k i : Nat) (h : k < l.length), findFrom name (l.take k) i = none → eqB l[k].name name = true → findFrom name l i = some (i + k)
  | [], k, i, h, _, _ => by simp at h
  | p :: l, 0, i, h, _, he => by
    unfold findFrom
    rw [if_pos (by simpa using he)]
    rfl
  | p :: l, k + 1, i, h, hn, he => by
    rw [List.take_succ_cons] at hn
    unfold findFrom at hn
    split at hn
    · cases hn
    · rename_i hp
      unfold findFrom
      rw [if_neg hp, findFrom_take l k (i + 1) (by simpa using h) hn (by simpa using he)]
      congr 1
      omega
theorem checkGo_names {l : List Prod} : ∀ (m i : Nat), i + m = l.length → checkGo l (l.drop i) i = 0 → ∀ k (h : k < l.length), i ≤ k → nameOk l[k].name = true ∧ findP (l.take k) l[k].name = none
  | 0, i, hm, _, k, h, hk => by omega
  | m + 1, i, hm, hz, k, h, hk => by
    rw [checkGo_drop (by omega)] at hz
    split at hz
    · rename_i hn
      split at hz
      · cases hz
      · rename_i hf
        split at hz
        · by_cases e : i = k
          · subst e
            refine ⟨hn, ?_⟩
            cases hx : findP (l.take i) l[i].name with
            | none => rfl
            | some y => rw [hx] at hf; exact absurd rfl hf
          · exact checkGo_names m (i + 1) (by omega) hz k h (by omega)
        · cases hz
    · cases hz
theorem find_self {l : List Prod} (hz : checkE l = 0) (k : Nat) (h : k < l.length) : nameOk (l.getD k Prod.none).name = true ∧ findP l (l.getD k Prod.none).name = some k := by
  have h0 := (checkE_zero hz).2.2
  obtain ⟨hn, hf⟩ := checkGo_names l.length 0 (by omega) (by rw [List.drop_zero]; exact h0) k h (by omega)
  rw [getD_prod l k h]
  refine ⟨hn, ?_⟩
  have := findFrom_take l k 0 h hf (eqB_iff.2 rfl)
  unfold findP
  rw [this, Nat.zero_add]
def elemT (p : Prod) (n : Int) : List LItem := [⟨p.name.data.toList, 1, 0⟩, ⟨[58], 3, 0⟩, ⟨[UInt8.ofNat (48 + n).toNat], 2, n.toNat⟩]
def tailT (l : List Prod) (b : Nat → Int) : List Nat → List LItem
  | [] => [⟨[125], 3, 0⟩]
  | k :: ks => ⟨[44], 3, 0⟩ :: (elemT (l.getD k Prod.none) (b k) ++ tailT l b ks)
theorem tailT_head (l : List Prod) (b : Nat → Int) (ks : List Nat) : ∃ c t, bytesOf (tailT l b ks) = c :: t ∧ (c = 44 ∨ c = 125) := by
  cases ks with
  | nil => exact ⟨125, [], rfl, .inr rfl⟩
  | cons k ks => exact ⟨44, _, rfl, .inl rfl⟩
theorem dig_facts {n : Int} (h1 : 1 ≤ n) (h4 : n ≤ 4) : isDig (UInt8.ofNat (48 + n).toNat) = true ∧ isLet (UInt8.ofNat (48 + n).toNat) = false ∧ (UInt8.ofNat (48 + n).toNat).toNat - 48 = n.toNat ∧ ¬ (UInt8.ofNat (48 + n).toNat).toNat = 32 := by
  obtain rfl | rfl | rfl | rfl : n = 1 ∨ n = 2 ∨ n = 3 ∨ n = 4 := by omega
  all_goals decide
theorem good_elem {p : Prod} {n : Int} {U : List LItem} (hn : nameOk p.name = true) (h1 : 1 ≤ n) (h4 : n ≤ 4) (hU : GoodI U) (hh : ∃ c t, bytesOf U = c :: t ∧ (c = 44 ∨ c = 125)) : GoodI (elemT p n ++ U) := by
  obtain ⟨c, t, e, hc⟩ := hh
  obtain ⟨d1, d2, d3, d4⟩ := dig_facts h1 h4
  have hs : Stops isDig (c :: t) := by
    intro a b hab
    injection hab with ha _
    subst ha
    rcases hc with rfl | rfl <;> decide
  have hw := item_word p.name hn (bytesOf (⟨[58], 3, 0⟩ :: ⟨[UInt8.ofNat (48 + n).toNat], 2, n.toNat⟩ :: U)) (by
    intro a b hab
    simp only [bytesOf, List.singleton_append, List.cons.injEq] at hab
    rw [← hab.1]
    decide)
  obtain ⟨hw1, a, b, hab, ha⟩ := hw
  have h3 := item_digit (bytesOf U) d1 d2 (by rw [e]; exact hs)
  rw [d3] at h3
  refine ⟨⟨a, b, hab, not_space_of_let ha⟩, hw1, ⟨58, [], rfl, by decide⟩, item_mark _ (by decide) (by decide) (by decide), ⟨_, [], rfl, d4⟩, h3, hU⟩
theorem good_tail {l : List Prod} {b : Nat → Int} : ∀ ks : List Nat, (∀ k ∈ ks, nameOk (l.getD k Prod.none).name = true ∧ 1 ≤ b k ∧ b k ≤ 4) → GoodI (tailT l b ks)
  | [], _ => ⟨⟨125, [], rfl, by decide⟩, item_mark _ (by decide) (by decide) (by decide), trivial⟩
  | k :: ks, h => by
    obtain ⟨h1, h2, h3⟩ := h k (by simp)
    exact ⟨⟨44, [], rfl, by decide⟩, item_mark _ (by decide) (by decide) (by decide), good_elem h1 h2 h3 (good_tail ks fun k hk => h k (by simp [hk])) (tailT_head l b ks)⟩
def ksOf (b : Nat → Int) (m : Nat) : List Nat := (List.range m).filter fun k => decide (0 < b k)
theorem fparts_eq (b : Nat → Int) (l : List Prod) : ∀ m, fparts b l m = (ksOf b m).map fun k => elemS (l.getD k Prod.none) (b k)
  | 0 => rfl
  | m + 1 => by
    unfold fparts ksOf
    rw [fparts_eq b l m, List.range_succ, List.filter_append, List.map_append]
    unfold ksOf
    by_cases h : 0 < b m
    · simp [h]
    · simp [h]
theorem elemS_bytes (p : Prod) (n : Int) : (elemS p n).data.toList = bytesOf (elemT p n) := by
  simp [elemS, digS, elemT, bytesOf]
theorem joinTail_cons (s x : List UInt8) (r : List (List UInt8)) : Lib.joinTail s (x :: r) = s ++ (x ++ Lib.joinTail s r) := by simp [Lib.joinTail]
theorem tail_bytes (l : List Prod) (b : Nat → Int) : ∀ ks : List Nat, Lib.joinTail [44] ((ks.map fun k => elemS (l.getD k Prod.none) (b k)).map (·.data.toList)) ++ [125] = bytesOf (tailT l b ks)
  | [] => rfl
  | k :: ks => by
    simp only [List.map_cons, joinTail_cons, tailT, bytesOf, bytesOf_append, ← tail_bytes l b ks, elemS_bytes, List.append_assoc]
/-- the reference's reading of the items -/
theorem isM_mark (c : UInt8) (k : Nat) (m : ByteArray) : isM ⟨((3 : Nat) : Int), ⟨[c].toArray⟩, ((0 : Nat) : Int), (k : Int)⟩ m = eqB ⟨#[c]⟩ m := by
  unfold isM
  rfl
theorem eqB_false {a b : ByteArray} (h : a ≠ b) : eqB a b = false := by
  cases hx : eqB a b with
  | false => rfl
  | true => exact absurd (eqB_iff.1 hx) h
theorem isM_yes (c : UInt8) (k : Nat) : isM ⟨((3 : Nat) : Int), ⟨[c].toArray⟩, ((0 : Nat) : Int), (k : Int)⟩ ⟨#[c]⟩ = true := by rw [isM_mark]; exact eqB_iff.2 rfl
theorem isM_no {c d : UInt8} (k : Nat) (h : c ≠ d) : isM ⟨((3 : Nat) : Int), ⟨[c].toArray⟩, ((0 : Nat) : Int), (k : Int)⟩ ⟨#[d]⟩ = false := by
  rw [isM_mark]
  exact eqB_false (fun e => h (by injection e with e; injection e with e; injection e))
theorem refGo_elem (l : List Prod) {p : Prod} {n : Int} {k : Nat} {U : List LItem} {b0 : Nat → Int} {a q : Nat} (hf : findP l p.name = some k) (h0 : b0 k = 0) (h1 : 1 ≤ n) (h4 : n ≤ 4) :
    refGo l (toksAt q (elemT p n ++ U)) b0 a = match toksAt (q + (bytesOf (elemT p n)).length) U with
      | [] => .error 1
      | t3 :: R3 => if isM t3 ⟨#[125]⟩ then .ok (upd b0 k n, R3, a + 4) else if isM t3 ⟨#[44]⟩ then refGo l R3 (upd b0 k n) (a + 4) else .error 2 := by
  rw [toksAt_append]
  generalize toksAt (q + (bytesOf (elemT p n)).length) U = R
  have hk : findK l p.name = k := by unfold findK; rw [hf]; rfl
  have hn : ((n.toNat : Nat) : Int) = n := by omega
  have ht : (⟨p.name.data.toList.toArray⟩ : ByteArray) = p.name := by simp
  simp only [elemT, toksAt, List.cons_append, List.nil_append]
  conv => lhs; unfold refGo
  simp only [ht, hn]
  rw [if_neg (by decide), if_neg (by rw [hf]; simp), hk, if_neg (by rw [h0]; simp), if_neg (by rw [isM_yes]; simp), if_neg (by decide), if_neg (by omega)]
  cases R <;> rfl
theorem refGo_items (l : List Prod) (b : Nat → Int) : ∀ (ks : List Nat) (k0 : Nat) (b0 : Nat → Int) (a q : Nat), (∀ k ∈ k0 :: ks, findP l (l.getD k Prod.none).name = some k ∧ 1 ≤ b k ∧ b k ≤ 4 ∧ b0 k = 0) → (k0 :: ks).Nodup →
    ∃ b' a', refGo l (toksAt q (elemT (l.getD k0 Prod.none) (b k0) ++ tailT l b ks)) b0 a = .ok (b', [], a') ∧ ∀ j, b' j = if j ∈ k0 :: ks then b j else b0 j
  | [], k0, b0, a, q, h, _ => by
    obtain ⟨hf, h1, h4, h0⟩ := h k0 (by simp)
    refine ⟨upd b0 k0 (b k0), a + 4, ?_, fun j => ?_⟩
    · rw [refGo_elem l hf h0 h1 h4]
      simp only [tailT, toksAt]
      rw [if_pos (isM_yes 125 _)]
    · unfold upd
      by_cases e : j = k0
      · subst e; simp
      · simp [e]
  | k1 :: ks, k0, b0, a, q, h, hd => by
    obtain ⟨hf, h1, h4, h0⟩ := h k0 (by simp)
    rw [List.nodup_cons] at hd
    obtain ⟨hd0, hd1⟩ := hd
    obtain ⟨b', a', hr, hb⟩ := refGo_items l b ks k1 (upd b0 k0 (b k0)) (a + 4) (q + (bytesOf (elemT (l.getD k0 Prod.none) (b k0))).length + 1) (fun k hk => by
      obtain ⟨x1, x2, x3, x4⟩ := h k (List.mem_cons_of_mem _ hk)
      refine ⟨x1, x2, x3, ?_⟩
      unfold upd
      rw [if_neg (fun e => by subst e; exact hd0 hk)]
      exact x4) hd1
    refine ⟨b', a', ?_, fun j => ?_⟩
    · rw [refGo_elem l hf h0 h1 h4]
      simp only [tailT, toksAt, List.length_singleton]
      rw [if_neg (by rw [isM_no _ (by decide)]; simp), if_pos (isM_yes 44 _)]
      exact hr
    · rw [hb j]
      unfold upd
      by_cases e : j = k0
      · subst e
        rw [if_neg hd0]
        simp
      · simp [e]
theorem fmt_size (b : Nat → Int) (l : List Prod) (h : rfitsB b l = true) : (fmtS b l).size ≤ 4000 := by
  have hfmt : fmtS b l = ⟨#[123]⟩ ++ joinS (fparts b l l.length) ++ ⟨#[125]⟩ := by unfold fmtS; rw [if_pos h]
  unfold rfitsB fitsB at h
  simp only [Bool.and_eq_true, beq_iff_eq] at h
  obtain ⟨hz, hv, ht⟩ := h
  have h6 := (checkE_zero hz).2.1
  have hm : ∀ x ∈ fparts b l l.length, x.size ≤ 14 := fparts_mem (fun p hp => nameOk_size (checkGo_range l 0 (checkE_zero hz).2.2 p hp).2) _ (Nat.le_refl _)
  have h1 := joinS_size _ hm
  have h2 := fparts_len b l l.length
  rw [hfmt]
  simp only [ByteArray.size_append]
  show 1 + _ + 1 ≤ 4000
  omega
theorem refF_open0 {l : List Prod} {t : Tok} (h : isM t ⟨#[123]⟩ = true) : refF l [t] = refGo l [] zero6 1 := by simp [refF, h]
theorem refF_open {l : List Prod} {t t1 : Tok} {R : List Tok} (h : isM t ⟨#[123]⟩ = true) (h1 : isM t1 ⟨#[125]⟩ = false) : refF l (t :: t1 :: R) = refGo l (t1 :: R) zero6 1 := by simp [refF, h, h1]
theorem roundtrip (l : List Prod) (b : Nat → Int) (h : rfitsB b l = true) : (parseF l (fmtS b l)).2 = 0 ∧ eq6 (parseF l (fmtS b l)).1 b = true := by
  have hfmt : fmtS b l = ⟨#[123]⟩ ++ joinS (fparts b l l.length) ++ ⟨#[125]⟩ := by unfold fmtS; rw [if_pos h]
  have h' := h
  unfold rfitsB fitsB at h'
  simp only [Bool.and_eq_true, beq_iff_eq] at h'
  obtain ⟨hz, hv, ht⟩ := h'
  have hv := validB_iff.1 hv
  have ht := tailB_iff.1 ht
  have h6 := (checkE_zero hz).2.1
  have hks : ∀ k ∈ ksOf b l.length, k < l.length ∧ 0 < b k := fun k hk => by
    unfold ksOf at hk
    simpa using List.mem_filter.1 hk
  have hkm : ∀ j, j < 6 → b j = if j ∈ ksOf b l.length then b j else 0 := fun j hj => by
    split
    · rfl
    · rename_i hn
      rcases ht j hj with h1 | h1
      · have : ¬ 0 < b j := fun h2 => hn (by unfold ksOf; exact List.mem_filter.2 ⟨List.mem_range.2 h1, by simpa using h2⟩)
        have := (hv j hj).1
        omega
      · exact h1
  have hnd : (ksOf b l.length).Nodup := List.Nodup.sublist List.filter_sublist List.nodup_range
  have hsz := fmt_size b l h
  unfold parseF
  rw [if_neg (by rw [hz]; simp)]
  rw [fparts_eq] at hfmt
  have hgood : ∀ k ∈ ksOf b l.length, nameOk (l.getD k Prod.none).name = true ∧ 1 ≤ b k ∧ b k ≤ 4 := fun k hk => by
    obtain ⟨h1, h2⟩ := hks k hk
    have := hv k (by omega)
    exact ⟨(find_self hz k h1).1, by omega, by omega⟩
  have hfind : ∀ k ∈ ksOf b l.length, findP l (l.getD k Prod.none).name = some k ∧ 1 ≤ b k ∧ b k ≤ 4 ∧ zero6 k = 0 := fun k hk => by
    obtain ⟨h1, h2⟩ := hks k hk
    have := hv k (by omega)
    exact ⟨(find_self hz k h1).2, by omega, by omega, rfl⟩
  generalize ksOf b l.length = ks at *
  cases ks with
  | nil =>
    have hl : lex (fmtS b l) = .ok (toksAt 0 [⟨[123], 3, 0⟩, ⟨[125], 3, 0⟩]) := by
      refine lex_items _ _ ⟨⟨123, [], rfl, by decide⟩, item_mark _ (by decide) (by decide) (by decide), ⟨125, [], rfl, by decide⟩, item_mark _ (by decide) (by decide) (by decide), trivial⟩ ?_ hsz
      rw [hfmt]
      rfl
    rw [hl]
    have hp : parseT l (toksAt 0 [⟨[123], 3, 0⟩, ⟨[125], 3, 0⟩]) = (zero6, 0) := by
      unfold parseT
      simp only [toksAt, refF]
      rw [if_neg (by rw [isM_yes]; simp), if_pos (isM_yes 125 _)]
      rfl
    rw [if_neg (by simp [LexErr])]
    show (parseT l _).2 = 0 ∧ _
    simp only [LexToks]
    rw [hp]
    refine ⟨rfl, (eq6_iff _ _).2 fun k hk => ?_⟩
    have := hkm k hk
    simp at this
    rw [this]
    rfl
  | cons k0 ks =>
    have hh := tailT_head l b ks
    have hg0 := hgood k0 (by simp)
    have hl : lex (fmtS b l) = .ok (toksAt 0 (⟨[123], 3, 0⟩ :: (elemT (l.getD k0 Prod.none) (b k0) ++ tailT l b ks))) := by
      refine lex_items _ _ ⟨⟨123, [], rfl, by decide⟩, item_mark _ (by decide) (by decide) (by decide), good_elem hg0.1 hg0.2.1 hg0.2.2 (good_tail ks fun k hk => hgood k (by simp [hk])) hh⟩ ?_ hsz
      rw [hfmt]
      simp only [bytesOf, bytesOf_append, ← tail_bytes, ← elemS_bytes, joinS, List.map_cons, Lib.join_cons]
      simp
    rw [hl]
    obtain ⟨b', a', hr, hb⟩ := refGo_items l b ks k0 zero6 1 (0 + 1) hfind hnd
    have hp : parseT l (toksAt 0 (⟨[123], 3, 0⟩ :: (elemT (l.getD k0 Prod.none) (b k0) ++ tailT l b ks))) = (b', 0) := by
      unfold parseT
      have e1 : refF l (toksAt 0 (⟨[123], 3, 0⟩ :: (elemT (l.getD k0 Prod.none) (b k0) ++ tailT l b ks))) = refGo l (toksAt (0 + 1) (elemT (l.getD k0 Prod.none) (b k0) ++ tailT l b ks)) zero6 1 := by
        rw [show ∀ (x : LItem) T q, toksAt q (x :: T) = ⟨x.kind, ⟨x.bytes.toArray⟩, x.value, q⟩ :: toksAt (q + x.bytes.length) T from fun _ _ _ => rfl]
        rw [show (0 + (⟨[123], 3, 0⟩ : LItem).bytes.length) = 0 + 1 from rfl]
        generalize hT : toksAt (0 + 1) (elemT (l.getD k0 Prod.none) (b k0) ++ tailT l b ks) = L
        cases L with
        | nil => exact refF_open0 (isM_yes 123 _)
        | cons t R =>
          have h1 : t.kind = 1 := by
            have : (toksAt (0 + 1) (elemT (l.getD k0 Prod.none) (b k0) ++ tailT l b ks)).head? = some t := by rw [hT]; rfl
            simp only [elemT, List.cons_append, toksAt, List.head?_cons, Option.some.injEq] at this
            rw [← this]
            rfl
          exact refF_open (isM_yes 123 _) (by unfold isM; rw [h1]; rfl)
      rw [e1, hr]
      rfl
    rw [if_neg (by simp [LexErr])]
    show (parseT l _).2 = 0 ∧ _
    simp only [LexToks]
    rw [hp]
    refine ⟨rfl, (eq6_iff _ _).2 fun k hk => ?_⟩
    show b' k = b k
    rw [hb k]
    exact (hkm k hk).symm
end Cat
end Go.Proofs.YtjjlhihocllgjaaGreatDoor
