/- Plain: the items of an expression's text; the parser on its tokens gives the expression. -/
import Derived.Test.YtjjlhihocllgjaaGreatDoorExP
namespace Go.Proofs.YtjjlhihocllgjaaGreatDoor.Ex
open Go.ChangeShapes Go.WideShapes Go.ChangeAt Go.RowKit Gn Cat Lex
set_option linter.unusedVariables false
set_option linter.unusedSimpArgs false
/-- heads -/
theorem tok_yes {c : UInt8} {t : Tok} (h : TokOf (mk_ c) t) : isM t ⟨#[c]⟩ = true := by
  obtain ⟨h1, h2, _⟩ := h
  unfold isM
  rw [h1, h2]
  exact (Bool.and_eq_true _ _).mpr ⟨rfl, eqB_iff.2 rfl⟩
theorem tok_no {c d : UInt8} {t : Tok} (h : TokOf (mk_ c) t) (hne : c ≠ d) : isM t ⟨#[d]⟩ = false := by
  obtain ⟨h1, h2, _⟩ := h
  unfold isM
  rw [h2, eqB_false (fun e => hne (by injection e with e; injection e with e; injection e)), Bool.and_false]
theorem exp_tok {c : UInt8} {T : List LItem} {L R : List Tok} (h : Tk (mk_ c :: T) L R) : Tk T (expL L 0 ⟨#[c]⟩) R ∧ expE L 0 ⟨#[c]⟩ = 0 := by
  obtain ⟨t, L', rfl, ht, h⟩ := h
  rw [(exp_yes (tok_yes ht)).1, (exp_yes (tok_yes ht)).2]
  exact ⟨h, rfl⟩
theorem acc_tok {c : UInt8} {T : List LItem} {L R : List Tok} (h : Tk (mk_ c :: T) L R) : accB L 0 ⟨#[c]⟩ ∧ Tk T (nextL L 0) R ∧ (peekT L 0).kind = 3 := by
  obtain ⟨t, L', rfl, ht, h⟩ := h
  exact ⟨(accB_cons _ _ _).2 (tok_yes ht), h, ht.1⟩
theorem nacc_tok {c d : UInt8} {T : List LItem} {L R : List Tok} (h : Tk (mk_ c :: T) L R) (hne : c ≠ d) : ¬ accB L 0 ⟨#[d]⟩ := by
  obtain ⟨t, L', rfl, ht, h⟩ := h
  intro k
  have := (accB_cons _ _ _).1 k
  rw [tok_no ht hne] at this
  cases this
def numT (v : Int) : LItem := ⟨Lib.decDigits v.toNat, 2, v.toNat⟩
theorem amt_tok {v : Int} (h0 : 0 ≤ v) (h1 : v ≤ 1000000) {T : List LItem} {L R : List Tok} (h : Tk (numT v :: T) L R) : amtV L 0 1000000 = v ∧ Tk T (amtL L 0 1000000) R ∧ amtE L 0 1000000 = 0 := by
  obtain ⟨t, L', rfl, ht, h⟩ := h
  have hk : t.kind = 2 := ht.1
  have hv : t.value = v := by
    have := ht.2.2
    unfold numT at this
    dsimp only at this
    omega
  have hp : peekT (t :: L') 0 = t := rfl
  have hn : nextL (t :: L') 0 = L' := rfl
  unfold amtV amtL amtE
  rw [hp, hn, hk, hv, if_pos ⟨rfl, h0, h1⟩, if_pos ⟨rfl, h0, h1⟩, if_pos rfl, if_pos ⟨h0, h1⟩]
  exact ⟨rfl, h, rfl⟩
/-- bundles -/
def bunR (l : List Prod) (b : Nat → Int) : List Nat → List LItem
  | [] => [mk_ 125]
  | k :: ks => elemT (l.getD k Prod.none) (b k) ++ tailT l b ks
def bunT (l : List Prod) (b : Nat → Int) : List LItem := mk_ 123 :: bunR l b (ksOf b l.length)
theorem bun_facts {l : List Prod} {b : Nat → Int} (h : rfitsB b l = true) : checkE l = 0 ∧ (∀ k ∈ ksOf b l.length, nameOk (l.getD k Prod.none).name = true ∧ findP l (l.getD k Prod.none).name = some k ∧ 1 ≤ b k ∧ b k ≤ 4) ∧ (ksOf b l.length).Nodup ∧ ∀ j, j < 6 → b j = if j ∈ ksOf b l.length then b j else 0 := by
  unfold rfitsB fitsB at h
  simp only [Bool.and_eq_true, beq_iff_eq] at h
  obtain ⟨hz, hv, ht⟩ := h
  have hv := validB_iff.1 hv
  have ht := tailB_iff.1 ht
  have h6 := (checkE_zero hz).2.1
  have hks : ∀ k ∈ ksOf b l.length, k < l.length ∧ 0 < b k := fun k hk => by
    unfold ksOf at hk
    simpa using List.mem_filter.1 hk
  refine ⟨hz, fun k hk => ?_, List.Nodup.sublist List.filter_sublist List.nodup_range, fun j hj => ?_⟩
  · obtain ⟨h1, h2⟩ := hks k hk
    have := hv k (by omega)
    exact ⟨(find_self hz k h1).1, (find_self hz k h1).2, by omega, by omega⟩
  · split
    · rfl
    · rename_i hn
      rcases ht j hj with h1 | h1
      · have : ¬ 0 < b j := fun h2 => hn (by unfold ksOf; exact List.mem_filter.2 ⟨List.mem_range.2 h1, by simpa using h2⟩)
        have := (hv j hj).1
        omega
      · exact h1
theorem bun_bytes {l : List Prod} {b : Nat → Int} (h : rfitsB b l = true) : bytesOf (bunT l b) = (fmtS b l).data.toList := by
  have hfmt : fmtS b l = ⟨#[123]⟩ ++ joinS (fparts b l l.length) ++ ⟨#[125]⟩ := by unfold fmtS; rw [if_pos h]
  rw [fparts_eq] at hfmt
  rw [hfmt]
  unfold bunT
  generalize ksOf b l.length = ks
  cases ks with
  | nil => rfl
  | cons k0 ks =>
    simp only [bunR, bytesOf, bytesOf_append, ← tail_bytes, ← elemS_bytes, joinS, List.map_cons, Lib.join_cons]
    simp
theorem gi_dig {n : Int} (h1 : 1 ≤ n) (h4 : n ≤ 4) : GI ⟨[UInt8.ofNat (48 + n).toNat], 2, n.toNat⟩ := by
  refine .inr (.inl ⟨n.toNat, by omega, ?_⟩)
  rw [dec_small (by omega), show (48 + n).toNat = 48 + n.toNat by omega]
theorem alt_elem {p : Prod} {n : Int} {U : List LItem} (hn : nameOk p.name = true) (h1 : 1 ≤ n) (h4 : n ≤ 4) (hU : Alt U) (hm : headM U) : Alt (elemT p n ++ U) :=
  ⟨.inl ⟨p.name, hn, rfl⟩, .inr rfl, .inr (.inr ⟨58, by decide, rfl⟩), .inl rfl, gi_dig h1 h4, .inr hm, hU⟩
theorem alt_tail {l : List Prod} {b : Nat → Int} {U : List LItem} (hU : Alt U) : ∀ ks : List Nat, (∀ k ∈ ks, nameOk (l.getD k Prod.none).name = true ∧ 1 ≤ b k ∧ b k ≤ 4) → Alt (tailT l b ks ++ U) ∧ headM (tailT l b ks ++ U)
  | [], _ => ⟨alt_mark (by decide) hU, rfl⟩
  | k :: ks, h => by
    obtain ⟨h1, h2, h3⟩ := h k (by simp)
    obtain ⟨a, m⟩ := alt_tail hU ks fun k hk => h k (by simp [hk])
    refine ⟨?_, rfl⟩
    show Alt (mk_ 44 :: (elemT (l.getD k Prod.none) (b k) ++ tailT l b ks ++ U))
    rw [List.append_assoc]
    exact alt_mark (by decide) (alt_elem h1 h2 h3 a m)
theorem bun_alt {l : List Prod} {b : Nat → Int} (h : rfitsB b l = true) {U : List LItem} (hU : Alt U) : Alt (bunT l b ++ U) := by
  obtain ⟨_, h2, _, _⟩ := bun_facts h
  unfold bunT
  generalize ksOf b l.length = ks at *
  rw [List.cons_append]
  refine alt_mark (by decide) ?_
  cases ks with
  | nil => exact alt_mark (by decide) hU
  | cons k0 ks =>
    obtain ⟨q1, _, q3, q4⟩ := h2 k0 (by simp)
    obtain ⟨a, m⟩ := alt_tail (l := l) (b := b) hU ks fun k hk => by
      obtain ⟨z1, _, z3, z4⟩ := h2 k (by simp [hk])
      exact ⟨z1, z3, z4⟩
    show Alt (elemT (l.getD k0 Prod.none) (b k0) ++ tailT l b ks ++ U)
    rw [List.append_assoc]
    exact alt_elem q1 q3 q4 a m
theorem refGo_el (l : List Prod) {p : Prod} {n : Int} {k : Nat} {b0 : Nat → Int} {a : Nat} {L R : List Tok} (hf : findP l p.name = some k) (h0 : b0 k = 0) (h1 : 1 ≤ n) (h4 : n ≤ 4) (h : Tk (elemT p n) L R) :
    refGo l L b0 a = match R with
      | [] => .error 1
      | t3 :: R3 => if isM t3 ⟨#[125]⟩ then .ok (upd b0 k n, R3, a + 4) else if isM t3 ⟨#[44]⟩ then refGo l R3 (upd b0 k n) (a + 4) else .error 2 := by
  obtain ⟨t, L1, rfl, ⟨e1, e2, _⟩, h⟩ := h
  obtain ⟨t1, L2, rfl, ht1, h⟩ := h
  obtain ⟨t2, L3, rfl, ⟨e4, _, e5⟩, h⟩ := h
  obtain rfl : L3 = R := h
  have hk : findK l p.name = k := by unfold findK; rw [hf]; rfl
  have hn : t2.value = n := by rw [e5]; show ((n.toNat : Nat) : Int) = n; omega
  have ht : t.text = p.name := by rw [e2]
  have hc : isM t1 ⟨#[58]⟩ = true := tok_yes ht1
  conv => lhs; unfold refGo
  simp only [ht, hn]
  rw [if_neg (by rw [e1]; exact fun h => h rfl), if_neg (by rw [hf]; simp), hk, if_neg (by rw [h0]; simp), if_neg (by rw [hc]; simp), if_neg (by rw [e4]; exact fun h => h rfl), if_neg (by omega)]
  cases L3 <;> rfl
theorem refGo_its (l : List Prod) (b : Nat → Int) : ∀ (ks : List Nat) (k0 : Nat) (b0 : Nat → Int) (a : Nat) (L R : List Tok), (∀ k ∈ k0 :: ks, findP l (l.getD k Prod.none).name = some k ∧ 1 ≤ b k ∧ b k ≤ 4 ∧ b0 k = 0) → (k0 :: ks).Nodup → Tk (elemT (l.getD k0 Prod.none) (b k0) ++ tailT l b ks) L R →
    ∃ b' a', refGo l L b0 a = .ok (b', R, a') ∧ ∀ j, b' j = if j ∈ k0 :: ks then b j else b0 j
  | [], k0, b0, a, L, R, h, _, hT => by
    obtain ⟨hf, h1, h4, h0⟩ := h k0 (by simp)
    obtain ⟨M, t1, t2⟩ := tk_append hT
    obtain ⟨t, M', rfl, ht, hM⟩ := t2
    obtain rfl : M' = R := hM
    refine ⟨upd b0 k0 (b k0), a + 4, ?_, fun j => ?_⟩
    · rw [refGo_el l hf h0 h1 h4 t1]
      dsimp only
      rw [if_pos (tok_yes ht)]
    · unfold upd
      by_cases e : j = k0
      · subst e; simp
      · simp [e]
  | k1 :: ks, k0, b0, a, L, R, h, hd, hT => by
    obtain ⟨hf, h1, h4, h0⟩ := h k0 (by simp)
    rw [List.nodup_cons] at hd
    obtain ⟨hd0, hd1⟩ := hd
    obtain ⟨M, t1, t2⟩ := tk_append hT
    obtain ⟨t, M', rfl, ht, hM⟩ := t2
    obtain ⟨b', a', hr, hb⟩ := refGo_its l b ks k1 (upd b0 k0 (b k0)) (a + 4) M' R (fun k hk => by
      obtain ⟨x1, x2, x3, x4⟩ := h k (List.mem_cons_of_mem _ hk)
      refine ⟨x1, x2, x3, ?_⟩
      unfold upd
      rw [if_neg (fun e => by subst e; exact hd0 hk)]
      exact x4) hd1 hM
    refine ⟨b', a', ?_, fun j => ?_⟩
    · rw [refGo_el l hf h0 h1 h4 t1]
      dsimp only
      rw [if_neg (by rw [tok_no (c := 44) ht (by decide)]; simp), if_pos (tok_yes ht)]
      exact hr
    · rw [hb j]
      unfold upd
      by_cases e : j = k0
      · subst e
        rw [if_neg hd0]
        simp
      · simp [e]
theorem bun_scan {l : List Prod} {b : Nat → Int} (h : rfitsB b l = true) {L R : List Tok} (hT : Tk (bunT l b) L R) : ∃ b', scanF l L 0 = ⟨R, 0, b'⟩ ∧ n6 b' = n6 b := by
  obtain ⟨hz, h2, hnd, hkm⟩ := bun_facts h
  have key : ∃ b' a', refF l L = .ok (b', R, a') ∧ ∀ j, j < 6 → b' j = b j := by
    unfold bunT at hT
    generalize ksOf b l.length = ks at *
    obtain ⟨t, M, rfl, ht, hM⟩ := hT
    cases ks with
    | nil =>
      obtain ⟨t2, M', rfl, ht2, hM2⟩ := hM
      obtain rfl : M' = R := hM2
      refine ⟨zero6, 2, ?_, fun j hj => ?_⟩
      · unfold refF
        dsimp only
        rw [if_neg (by rw [tok_yes ht]; simp), if_pos (tok_yes ht2)]
      · have := hkm j hj
        simp at this
        rw [this]
        rfl
    | cons k0 ks =>
      obtain ⟨b', a', hr, hb⟩ := refGo_its l b ks k0 zero6 1 M R (fun k hk => by
        obtain ⟨_, z2, z3, z4⟩ := h2 k hk
        exact ⟨z2, z3, z4, rfl⟩) hnd hM
      refine ⟨b', a', ?_, fun j hj => ?_⟩
      · have e1 : refF l (t :: M) = refGo l M zero6 1 := by
          obtain ⟨t1, R1, rfl, ⟨k1, _⟩, _⟩ := hM
          exact refF_open (tok_yes ht) (by unfold isM; rw [k1]; rfl)
        rw [e1, hr]
      · rw [hb j]
        exact (hkm j hj).symm
  obtain ⟨b', a', hr, hb⟩ := key
  have := scan_ref l L hz
  rw [hr] at this
  exact ⟨b', this, by unfold n6; rw [hb 0 (by decide), hb 1 (by decide), hb 2 (by decide), hb 3 (by decide), hb 4 (by decide), hb 5 (by decide)]⟩
/-- a bundle with a value -/
theorem priced_tok {l : List Prod} {b : Nat → Int} {v : Int} (h : rfitsB b l = true) (h0 : 0 ≤ v) (h1 : v ≤ 1000000) {T : List LItem} {L R : List Tok} (hT : Tk (bunT l b ++ (mk_ 64 :: numT v :: T)) L R) : (peekT L 0).kind = 3 ∧ n6 (pricedF l L 0).b = n6 b ∧ (pricedF l L 0).v = v ∧ Tk T (pricedF l L 0).L R ∧ (pricedF l L 0).e = 0 := by
  obtain ⟨M, t1, t2⟩ := tk_append hT
  obtain ⟨b', hs, hb⟩ := bun_scan h t1
  obtain ⟨hk, hacc⟩ : (peekT L 0).kind = 3 ∧ accB L 0 ⟨#[123]⟩ := by
    obtain ⟨q1, _, q3⟩ := acc_tok t1
    exact ⟨q3, q1⟩
  have ho : openE L 0 = 0 := by unfold openE; rw [hk, if_neg (by decide), if_pos hacc]
  obtain ⟨x1, x2⟩ := exp_tok t2
  obtain ⟨y1, y2, y3⟩ := amt_tok h0 h1 x1
  have hP : pricedF l L 0 = ⟨b', amtV (expL M 0 ⟨#[64]⟩) (expE M 0 ⟨#[64]⟩) 1000000, amtL (expL M 0 ⟨#[64]⟩) (expE M 0 ⟨#[64]⟩) 1000000, amtE (expL M 0 ⟨#[64]⟩) (expE M 0 ⟨#[64]⟩) 1000000⟩ := by
    unfold pricedF
    rw [ho, hs]
    rfl
  rw [hP, x2]
  exact ⟨hk, hb, y1, y2, y3⟩
/-- expressions -/
def joinI : List (List LItem) → List LItem
  | [] => []
  | x :: r => x ++ r.flatMap fun y => mk_ 44 :: y
def wordT (s : ByteArray) : LItem := ⟨s.data.toList, 1, 0⟩
noncomputable def itemsF (l : List Prod) : Nat → Tree → List LItem
  | 0, _ => []
  | d + 1, e =>
    if e.op = 1 then bunT l e.want ++ [mk_ 64, numT e.value]
    else if e.op = 2 then wordT wXor :: mk_ 40 :: (joinI (e.args.map (itemsF l d)) ++ [mk_ 41])
    else if e.op = 3 then wordT wOr :: mk_ 40 :: (joinI (e.args.map (itemsF l d)) ++ [mk_ 41])
    else if e.op = 4 then wordT wBonus :: mk_ 40 :: (joinI (e.args.map (itemsF l d)) ++ (mk_ 44 :: (bunT l e.want ++ [mk_ 64, numT e.value, mk_ 41])))
    else wordT wLimit :: mk_ 40 :: (joinI (e.args.map (itemsF l d)) ++ [mk_ 44, numT e.value, mk_ 41])
theorem fit_args {l : List Prod} {d : Nat} {e : Tree} (h1 : e.op ≠ 1) (h : (textF l (d + 1) e).2 = true) : (∀ x ∈ e.args, (textF l d x).2 = true) ∧ (e.op = 4 → rfitsB e.want l = true) := by
  unfold textF at h
  rw [if_neg h1] at h
  dsimp only at h
  by_cases h2 : e.op = 2
  · rw [if_pos h2] at h
    exact ⟨List.all_eq_true.1 h, fun k => by omega⟩
  · rw [if_neg h2] at h
    by_cases h3 : e.op = 3
    · rw [if_pos h3] at h
      exact ⟨List.all_eq_true.1 h, fun k => by omega⟩
    · rw [if_neg h3] at h
      by_cases h4 : e.op = 4
      · rw [if_pos h4] at h
        dsimp only at h
        rw [Bool.and_eq_true] at h
        exact ⟨List.all_eq_true.1 h.1, fun _ => h.2⟩
      · rw [if_neg h4] at h
        exact ⟨List.all_eq_true.1 h, fun k => absurd k h4⟩
theorem fit_atom {l : List Prod} {d : Nat} {e : Tree} (h1 : e.op = 1) (h : (textF l (d + 1) e).2 = true) : rfitsB e.want l = true := by
  unfold textF at h
  rw [if_pos h1] at h
  exact h
theorem fold_bytes {T : Type} {f : T → List LItem} {g : T → ByteArray} : ∀ (r : List T) (t : ByteArray), (∀ x ∈ r, bytesOf (f x) = (g x).data.toList) → ((r.map g).foldl (fun t x => t ++ ⟨#[44]⟩ ++ x) t).data.toList = t.data.toList ++ bytesOf ((r.map f).flatMap fun y => mk_ 44 :: y)
  | [], t, _ => by simp [bytesOf]
  | x :: r, t, h => by
    rw [List.map_cons, List.foldl_cons, fold_bytes r _ (fun y hy => h y (by simp [hy])), List.map_cons, List.flatMap_cons, bytesOf_append]
    simp only [bytesOf, h x (by simp), ByteArray.data_append, Array.toList_append, List.append_assoc]
    try simp
theorem join_bytes {T : Type} {f : T → List LItem} {g : T → ByteArray} : ∀ r : List T, (∀ x ∈ r, bytesOf (f x) = (g x).data.toList) → bytesOf (joinI (r.map f)) = (innK (r.map g)).data.toList
  | [], _ => rfl
  | x :: r, h => by
    rw [List.map_cons, List.map_cons]
    unfold innK joinI
    dsimp only
    rw [fold_bytes r _ (fun y hy => h y (by simp [hy])), bytesOf_append, h x (by simp)]
    simp
theorem num_bytes {v : Int} (h : 0 ≤ v) : (decS v).data.toList = (numT v).bytes := by
  obtain ⟨n, rfl⟩ : ∃ n : Nat, v = (n : Int) := ⟨v.toNat, by omega⟩
  rw [decS_pos]
  rfl
theorem items_bytes (l : List Prod) : ∀ (d : Nat) (e : Tree), errN (preF d e) = 0 → (textF l d e).2 = true → bytesOf (itemsF l d e) = (textF l d e).1.data.toList
  | 0, e, _, h => by cases h
  | d + 1, e, he, hf => by
    obtain ⟨h1, h2, h3⟩ := err_parts he
    by_cases o1 : e.op = 1
    · have hb := fit_atom o1 hf
      have hv := range_val h2 (by omega) (by omega)
      unfold itemsF textF
      rw [if_pos o1, if_pos o1]
      unfold priceT
      simp only [bytesOf_append, bun_bytes hb, bytesOf, ← num_bytes (show 0 ≤ e.value by omega), ByteArray.data_append, Array.toList_append]
      simp
    · obtain ⟨fa, f4⟩ := fit_args o1 hf
      have hj := join_bytes (f := itemsF l d) (g := fun x => (textF l d x).1) e.args (fun x hx => items_bytes l d x (h3 x hx) (fa x hx))
      unfold itemsF textF
      rw [if_neg o1, if_neg o1]
      dsimp only
      by_cases o2 : e.op = 2
      · rw [if_pos o2, if_pos o2]
        simp only [bytesOf_append, bytesOf, hj, wordT, ByteArray.data_append, Array.toList_append]
        simp
      · rw [if_neg o2, if_neg o2]
        by_cases o3 : e.op = 3
        · rw [if_pos o3, if_pos o3]
          simp only [bytesOf_append, bytesOf, hj, wordT, ByteArray.data_append, Array.toList_append]
          simp
        · rw [if_neg o3, if_neg o3]
          have hv := range_val h2 o2 o3
          by_cases o4 : e.op = 4
          · rw [if_pos o4, if_pos o4]
            unfold priceT
            simp only [bytesOf_append, bytesOf, hj, wordT, bun_bytes (f4 o4), ← num_bytes (show 0 ≤ e.value by omega), ByteArray.data_append, Array.toList_append]
            simp
          · rw [if_neg o4, if_neg o4]
            simp only [bytesOf_append, bytesOf, hj, wordT, ← num_bytes (show 0 ≤ e.value by omega), ByteArray.data_append, Array.toList_append]
            simp
theorem gi_num {v : Int} (h0 : 0 ≤ v) (h1 : v ≤ 1000000) : GI (numT v) := .inr (.inl ⟨v.toNat, by omega, rfl⟩)
theorem alt_join {T : Type} {f : T → List LItem} {U : List LItem} (hU : Alt U) (hm : headM U) : ∀ r : List T, (∀ x ∈ r, ∀ V, Alt V → headM V → Alt (f x ++ V)) → Alt (((r.map f).flatMap fun y => mk_ 44 :: y) ++ U) ∧ headM (((r.map f).flatMap fun y => mk_ 44 :: y) ++ U)
  | [], _ => ⟨hU, hm⟩
  | x :: r, h => by
    obtain ⟨a, m⟩ := alt_join hU hm r fun y hy => h y (by simp [hy])
    rw [List.map_cons, List.flatMap_cons, List.append_assoc, List.cons_append]
    exact ⟨alt_mark (by decide) (h x (by simp) _ a m), rfl⟩
theorem alt_args {T : Type} {f : T → List LItem} {U : List LItem} (hU : Alt U) (hm : headM U) (r : List T) (h : ∀ x ∈ r, ∀ V, Alt V → headM V → Alt (f x ++ V)) : Alt (joinI (r.map f) ++ U) := by
  cases r with
  | nil => exact hU
  | cons x r =>
    obtain ⟨a, m⟩ := alt_join hU hm r fun y hy => h y (by simp [hy])
    show Alt ((f x ++ _) ++ U)
    rw [List.append_assoc]
    exact h x (by simp) _ a m
theorem items_alt (l : List Prod) : ∀ (d : Nat) (e : Tree), errN (preF d e) = 0 → (textF l d e).2 = true → ∀ U, Alt U → headM U → Alt (itemsF l d e ++ U)
  | 0, e, _, h => by cases h
  | d + 1, e, he, hf => by
    intro U hU hm
    obtain ⟨h1, h2, h3⟩ := err_parts he
    by_cases o1 : e.op = 1
    · have hb := fit_atom o1 hf
      have hv := range_val h2 (by omega) (by omega)
      unfold itemsF
      rw [if_pos o1, List.append_assoc]
      exact bun_alt hb (alt_mark (by decide) (alt_one (gi_num (by omega) hv.2) hm hU))
    · obtain ⟨fa, f4⟩ := fit_args o1 hf
      have ha := fun x hx => items_alt l d x (h3 x hx) (fa x hx)
      have gw (s : ByteArray) (h : nameOk s = true) : GI (wordT s) := .inl ⟨s, h, rfl⟩
      unfold itemsF
      rw [if_neg o1]
      by_cases o2 : e.op = 2
      · rw [if_pos o2, List.cons_append, List.cons_append, List.append_assoc]
        exact alt_one (gw _ (by decide +kernel)) rfl (alt_mark (by decide) (alt_args (alt_mark (by decide) hU) rfl e.args ha))
      · rw [if_neg o2]
        by_cases o3 : e.op = 3
        · rw [if_pos o3, List.cons_append, List.cons_append, List.append_assoc]
          exact alt_one (gw _ (by decide +kernel)) rfl (alt_mark (by decide) (alt_args (alt_mark (by decide) hU) rfl e.args ha))
        · rw [if_neg o3]
          have hv := range_val h2 o2 o3
          by_cases o4 : e.op = 4
          · rw [if_pos o4, List.cons_append, List.cons_append, List.append_assoc, List.cons_append, List.append_assoc]
            exact alt_one (gw _ (by decide +kernel)) rfl (alt_mark (by decide) (alt_args (alt_mark (by decide) (bun_alt (f4 o4) (alt_mark (by decide) (alt_one (gi_num (by omega) hv.2) (show headM (mk_ 41 :: U) from rfl) (alt_mark (by decide) hU))))) rfl e.args ha))
          · rw [if_neg o4, List.cons_append, List.cons_append, List.append_assoc]
            exact alt_one (gw _ (by decide +kernel)) rfl (alt_mark (by decide) (alt_args (alt_mark (by decide) (alt_one (gi_num (by omega) hv.2) (show headM (mk_ 41 :: U) from rfl) (alt_mark (by decide) hU))) rfl e.args ha))
theorem eq6_n6 {p q : Nat → Int} (h : eq6 p q = true) : n6 p = n6 q := by
  have h := (eq6_iff p q).1 h
  unfold n6
  rw [h 0 (by decide), h 1 (by decide), h 2 (by decide), h 3 (by decide), h 4 (by decide), h 5 (by decide)]
theorem argX_ok (f : List Tok → Int → PX) (L : List Tok) : argX f L 0 = f L 0 := by unfold argX; rw [if_neg (by simp)]
theorem close_tok {x : X} {T : List LItem} {L R : List Tok} (h : Tk [mk_ 41] L R) : closeX ⟨x, L, 0⟩ = ⟨x, R, 0⟩ := by
  obtain ⟨h1, h2⟩ := exp_tok h
  obtain rfl : _ = R := h1
  unfold closeX
  dsimp only
  rw [h2]
theorem more_tok {l : List Prod} {d : Nat} {f : List Tok → Int → PX} : ∀ (r : List Tree) (k : Nat) (xs : List X) (L M R : List Tok), (∀ x ∈ r, ∀ L R, Tk (itemsF l d x) L R → f L 0 = ⟨xF d x, R, 0⟩) → r.length < k → Tk ((r.map (itemsF l d)).flatMap fun y => mk_ 44 :: y) L M → Tk [mk_ 41] M R → moreF f k ⟨xs, L, 0⟩ = ⟨xs ++ r.map (xF d), M, 0⟩
  | [], k + 1, xs, L, M, R, _, _, hT, hM => by
    obtain rfl : L = M := hT
    unfold moreF
    rw [if_neg (nacc_tok hM (by decide))]
    simp
  | x :: r, k + 1, xs, L, M, R, hf, hk, hT, hM => by
    rw [List.map_cons, List.flatMap_cons] at hT
    obtain ⟨N, t1, t2⟩ := tk_append hT
    obtain ⟨a1, a2, _⟩ := acc_tok t1
    have hx := hf x (by simp) _ _ a2
    unfold moreF
    dsimp only
    rw [if_pos a1, argX_ok, hx]
    dsimp only
    rw [more_tok r k _ N M R (fun y hy => hf y (by simp [hy])) (by simpa using hk) t2 hM]
    simp
theorem opW_2 : opW wXor = 2 := by decide +kernel
theorem opW_3 : opW wOr = 3 := by decide +kernel
theorem opW_4 : opW wBonus = 4 := by decide +kernel
theorem opW_5 : opW wLimit = 5 := by decide +kernel
theorem flat_len {l : List Prod} {d : Nat} : ∀ (r : List Tree), r.length ≤ ((r.map (itemsF l d)).flatMap fun y => mk_ 44 :: y).length
  | [] => Nat.le_refl _
  | x :: r => by
    rw [List.map_cons, List.flatMap_cons, List.length_append]
    have := flat_len (l := l) (d := d) r
    simp only [List.length_cons] at *
    omega
/-- an operation's word, the parenthesis, what is behind it -/
theorem word_tok {l : List Prod} {s : ByteArray} {op : Int} (hw : opW s = op) (hop : op ≠ 1) (h0 : op ≠ 0) {D : Nat} {T : List LItem} {L R : List Tok} (h : Tk (wordT s :: mk_ 40 :: T) L R) : ∃ M, Tk T M R ∧ exprF l (D + 1) L 0 = bodyX l (exprF l D) op (exprF l D M 0) := by
  obtain ⟨t, L1, rfl, ⟨e1, e2, _⟩, h⟩ := h
  obtain ⟨h1, h2⟩ := exp_tok h
  have ho : opT (t :: L1) 0 = op := by
    unfold opT
    rw [show peekT (t :: L1) 0 = t from rfl, e1, e2]
    exact (if_pos rfl).trans hw
  have he : opE (t :: L1) 0 = 0 := by unfold opE; rw [ho, if_neg h0]
  refine ⟨_, h1, ?_⟩
  conv => lhs; unfold exprF
  try dsimp only
  rw [he, ho, if_neg hop]
  unfold firstX
  rw [show nextL (t :: L1) 0 = L1 from rfl, h2, argX_ok]
theorem expr_tok (l : List Prod) : ∀ (d : Nat) (e : Tree) (D : Nat) (L R : List Tok), errN (preF d e) = 0 → (textF l d e).2 = true → depthF d e ≤ D → Tk (itemsF l d e) L R → exprF l D L 0 = ⟨xF d e, R, 0⟩
  | 0, e, _, _, _, _, h, _, _ => by cases h
  | d + 1, e, D, L, R, he, hf, hD, hT => by
    obtain ⟨h1, h2, h3⟩ := err_parts he
    obtain ⟨D, rfl⟩ : ∃ D', D = D' + 1 := by
      have : 1 ≤ depthF (d + 1) e := Nat.le_add_left 1 _
      exact ⟨D - 1, by omega⟩
    have hDx : ∀ x ∈ e.args, depthF d x ≤ D := fun x hx => by
      have hm : ∀ (r : List Nat) (b : Nat), b ≤ r.foldl max b ∧ ∀ y ∈ r, y ≤ r.foldl max b := by
        intro r
        induction r with
        | nil => intro b; exact ⟨Nat.le_refl _, fun y hy => by cases hy⟩
        | cons a r ih =>
          intro b
          obtain ⟨q1, q2⟩ := ih (max b a)
          rw [List.foldl_cons]
          refine ⟨Nat.le_trans (Nat.le_max_left _ _) q1, fun y hy => ?_⟩
          rcases List.mem_cons.1 hy with rfl | hy
          · exact Nat.le_trans (Nat.le_max_right _ _) q1
          · exact q2 y hy
      have := (hm (e.args.map (depthF d)) 0).2 (depthF d x) (List.mem_map.2 ⟨x, hx, rfl⟩)
      have h4 : maxL (e.args.map (depthF d)) + 1 ≤ D + 1 := hD
      unfold maxL at h4
      omega
    by_cases o1 : e.op = 1
    · have hb := fit_atom o1 hf
      have hv := range_val h2 (by omega) (by omega)
      have ha : e.args = [] := by
        unfold formB at h1
        rw [if_pos o1] at h1
        exact List.eq_nil_of_length_eq_zero (by simpa using h1)
      unfold itemsF at hT
      rw [if_pos o1] at hT
      obtain ⟨p0, p1, p2, p3, p4⟩ := priced_tok hb (by omega) hv.2 hT
      have ho : opT L 0 = 1 := by unfold opT; rw [if_neg (by rw [p0]; decide)]
      have hoe : opE L 0 = 0 := by unfold opE; rw [ho, if_neg (by decide)]
      obtain rfl : _ = R := p3
      unfold exprF
      try dsimp only
      rw [ho, hoe, if_pos rfl, p1, p2, p4]
      unfold xF
      rw [ha, o1]
      rfl
    · obtain ⟨fa, f4⟩ := fit_args o1 hf
      have ih := fun x hx L R => expr_tok l d x D L R (h3 x hx) (fa x hx) (hDx x hx)
      have hx : xF (d + 1) e = .mk e.op (n6 e.want) e.value (e.args.map (xF d)) := rfl
      unfold itemsF at hT
      rw [if_neg o1] at hT
      unfold formB at h1
      rw [if_neg o1] at h1
      by_cases o23 : e.op = 2 ∨ e.op = 3
      · rw [if_pos o23] at h1
        simp only [Bool.and_eq_true, decide_eq_true_eq] at h1
        obtain ⟨⟨⟨n1, n8⟩, hz⟩, hv⟩ := h1
        obtain ⟨a, r, har⟩ : ∃ a r, e.args = a :: r := by
          cases h : e.args with
          | nil => rw [h] at n1; simp at n1
          | cons a r => exact ⟨a, r, rfl⟩
        have key : ∃ M, Tk (joinI (e.args.map (itemsF l d)) ++ [mk_ 41]) M R ∧ exprF l (D + 1) L 0 = bodyX l (exprF l D) e.op (exprF l D M 0) := by
          rcases o23 with o | o
          · rw [if_pos o] at hT
            rw [o]
            exact word_tok opW_2 (by decide) (by decide) hT
          · rw [if_neg (by omega), if_pos o] at hT
            rw [o]
            exact word_tok opW_3 (by decide) (by decide) hT
        obtain ⟨M, hM, hE⟩ := key
        rw [har, List.map_cons] at hM
        have hM : Tk (itemsF l d a ++ (((r.map (itemsF l d)).flatMap fun y => mk_ 44 :: y) ++ [mk_ 41])) M R := by rw [← List.append_assoc]; exact hM
        obtain ⟨N, m1, m2⟩ := tk_append hM
        obtain ⟨N2, m3, m4⟩ := tk_append m2
        have hn := tk_len m3
        have hfl := flat_len (l := l) (d := d) r
        rw [hE, ih a (by rw [har]; simp) M N m1]
        unfold bodyX
        rw [if_pos o23]
        dsimp only
        rw [more_tok r (N.length + 1) [xF d a] N N2 R (fun x hx => ih x (by rw [har]; simp [hx])) (by omega) m3 m4]
        rw [close_tok (T := []) m4, hx, har, eq6_n6 hz, hv]
        rfl
      · rw [if_neg o23] at h1
        have o2 : e.op ≠ 2 := fun h => o23 (.inl h)
        have o3 : e.op ≠ 3 := fun h => o23 (.inr h)
        have hv := range_val h2 o2 o3
        rw [if_neg o2, if_neg o3] at hT
        by_cases o4 : e.op = 4
        · rw [if_pos o4] at h1 hT
          obtain ⟨a, ha⟩ := List.length_eq_one_iff.1 (by simpa using h1 : e.args.length = 1)
          obtain ⟨M, hM, hE⟩ := word_tok (l := l) (D := D) opW_4 (by decide) (by decide) hT
          rw [ha] at hM
          have hM : Tk (itemsF l d a ++ (mk_ 44 :: (bunT l e.want ++ [mk_ 64, numT e.value, mk_ 41]))) M R := by simpa [joinI] using hM
          obtain ⟨N, m1, m2⟩ := tk_append hM
          obtain ⟨x1, x2⟩ := exp_tok m2
          obtain ⟨_, p1, p2, p3, p4⟩ := priced_tok (f4 o4) (by omega) hv.2 x1
          rw [hE, ih a (by rw [ha]; simp) M N m1]
          unfold bodyX
          rw [if_neg (by decide), if_pos rfl]
          dsimp only
          rw [x2, p1, p2, p4, close_tok (T := []) p3, hx, ha, o4]
          rfl
        · rw [if_neg o4] at h1 hT
          have o5 : e.op = 5 := by
            by_cases o5 : e.op = 5
            · exact o5
            · rw [if_neg o5] at h1; cases h1
          rw [if_pos o5] at h1
          simp only [Bool.and_eq_true, decide_eq_true_eq] at h1
          obtain ⟨a, ha⟩ := List.length_eq_one_iff.1 h1.1
          obtain ⟨M, hM, hE⟩ := word_tok (l := l) (D := D) opW_5 (by decide) (by decide) hT
          rw [ha] at hM
          have hM : Tk (itemsF l d a ++ [mk_ 44, numT e.value, mk_ 41]) M R := by simpa [joinI] using hM
          obtain ⟨N, m1, m2⟩ := tk_append hM
          obtain ⟨x1, x2⟩ := exp_tok m2
          obtain ⟨y1, y2, y3⟩ := amt_tok (by omega) hv.2 x1
          rw [hE, ih a (by rw [ha]; simp) M N m1]
          unfold bodyX
          rw [if_neg (by decide), if_neg (by decide), if_pos rfl]
          dsimp only
          rw [x2, y1, y3, close_tok (T := []) y2, hx, ha, o5, eq6_n6 h1.2]
          rfl
end Go.Proofs.YtjjlhihocllgjaaGreatDoor.Ex
