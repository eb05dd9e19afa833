/- Plain: what Check and Format answer depends on the expression alone, not on where it lies. -/
import Derived.Test.YtjjlhihocllgjaaGreatDoorExQ
import Derived.Test.YtjjlhihocllgjaaGreatDoorExA
namespace Go.Proofs.YtjjlhihocllgjaaGreatDoor.Ex
open Go.ChangeShapes Go.WideShapes Go.ChangeAt Go.RowKit Gn Cat Lex
set_option linter.unusedVariables false
set_option linter.unusedSimpArgs false
/-- d bounds the depth -/
def Deep : Nat → Tree → Prop
  | 0, _ => False
  | d + 1, e => ∀ x ∈ e.args, Deep d x
theorem In.deep : ∀ {d B : Nat} {w : World} {e : Tree}, In d B w e → Deep d e
  | 0, _, _, _, h => h.elim
  | d + 1, B, w, e, h => fun x hx => (h.2.2.2 x hx).deep
theorem InP.deep : ∀ {ok : Nat → Prop} {d : Nat} {w : World} {e : Tree}, InP ok d w e → Deep d e
  | _, 0, _, _, h => h.elim
  | ok, d + 1, w, e, h => fun x hx => (h.2.2.2 x hx).deep
theorem valid_congr {p q : Nat → Int} (h : ∀ k, k < 6 → p k = q k) : validB p = validB q := by
  rw [Bool.eq_iff_iff, validB_iff, validB_iff]
  exact ⟨fun a i hi => by rw [← h i hi]; exact a i hi, fun a i hi => by rw [h i hi]; exact a i hi⟩
theorem rfits_congr {l : List Prod} {p q : Nat → Int} (h : ∀ k, k < 6 → p k = q k) : rfitsB p l = rfitsB q l := by
  have ht : tailB p l.length = tailB q l.length := by
    rw [Bool.eq_iff_iff, tailB_iff, tailB_iff]
    exact ⟨fun a i hi => by rw [← h i hi]; exact a i hi, fun a i hi => by rw [h i hi]; exact a i hi⟩
  unfold rfitsB fitsB
  rw [valid_congr h, ht]
theorem ks_congr {p q : Nat → Int} (h : ∀ k, k < 6 → p k = q k) {m : Nat} (hm : m ≤ 6) : ksOf p m = ksOf q m := by
  unfold ksOf
  refine List.filter_congr fun k hk => ?_
  rw [h k (by have := List.mem_range.1 hk; omega)]
theorem fmt_congr {l : List Prod} {p q : Nat → Int} (h : ∀ k, k < 6 → p k = q k) : fmtS p l = fmtS q l := by
  unfold fmtS
  rw [rfits_congr h]
  by_cases hr : rfitsB q l = true
  · have h6 : l.length ≤ 6 := by
      unfold rfitsB at hr
      simp only [Bool.and_eq_true, beq_iff_eq] at hr
      exact (checkE_zero hr.1).2.1
    rw [if_pos hr, if_pos hr, fparts_eq, fparts_eq, ks_congr h h6]
    congr 3
    refine List.map_congr_left fun k hk => ?_
    unfold ksOf at hk
    have := List.mem_range.1 (List.mem_filter.1 hk).1
    rw [h k (by omega)]
  · rw [if_neg hr, if_neg hr]
/-- two nodes alike -/
def NodeEq (a b : Tree) : Prop := a.op = b.op ∧ n6 a.want = n6 b.want ∧ a.value = b.value ∧ a.args.length = b.args.length
theorem eq6_congr {p q : Nat → Int} (h : ∀ k, k < 6 → p k = q k) : eq6 p zero6 = eq6 q zero6 := by
  unfold eq6
  rw [h 0 (by decide), h 1 (by decide), h 2 (by decide), h 3 (by decide), h 4 (by decide), h 5 (by decide)]
theorem NodeEq.form {a b : Tree} (h : NodeEq a b) : formB a = formB b := by
  obtain ⟨h1, h2, h3, h4⟩ := h
  unfold formB
  rw [h1, h3, h4, eq6_congr (n6_eq h2)]
theorem NodeEq.range {a b : Tree} (h : NodeEq a b) : rangeB a = rangeB b := by
  obtain ⟨h1, h2, h3, h4⟩ := h
  have e := n6_eq h2
  unfold rangeB total6
  rw [h1, h3, valid_congr e, e 0 (by decide), e 1 (by decide), e 2 (by decide), e 3 (by decide), e 4 (by decide), e 5 (by decide)]
/-- two lists of nodes, one for one -/
def Nodes : List Tree → List Tree → Prop
  | [], [] => True
  | a :: l, b :: r => NodeEq a b ∧ Nodes l r
  | _, _ => False
theorem Nodes.app : ∀ {l l' r r' : List Tree}, Nodes l l' → Nodes r r' → Nodes (l ++ r) (l' ++ r')
  | [], [], _, _, _, h => h
  | a :: l, b :: l', _, _, h, k => ⟨h.1, Nodes.app h.2 k⟩
  | [], _ :: _, _, _, h, _ => h.elim
  | _ :: _, [], _, _, h, _ => h.elim
theorem Nodes.len : ∀ {l r : List Tree}, Nodes l r → l.length = r.length
  | [], [], _ => rfl
  | a :: l, b :: r, h => by simp [Nodes.len h.2]
  | [], _ :: _, h => h.elim
  | _ :: _, [], h => h.elim
theorem Nodes.err : ∀ {l r : List Tree}, Nodes l r → errN l = errN r
  | [], [], _ => rfl
  | a :: l, b :: r, h => by rw [errN, errN, h.1.form, h.1.range, Nodes.err h.2]
  | [], _ :: _, h => h.elim
  | _ :: _, [], h => h.elim
theorem Nodes.wide : ∀ {l r : List Tree}, Nodes l r → wideB l = wideB r
  | [], [], _ => rfl
  | a :: l, b :: r, h => by
    have := Nodes.wide h.2
    unfold wideB at this ⊢
    rw [List.any_cons, List.any_cons, this, h.1.2.2.2]
  | [], _ :: _, h => h.elim
  | _ :: _, [], h => h.elim
theorem x_node {d d' : Nat} {a b : Tree} (h : xF (d + 1) a = xF (d' + 1) b) : NodeEq a b := by
  obtain ⟨h1, h2, h3, h4⟩ := xF_parts h
  exact ⟨h1, h2, h3, by have := congrArg List.length h4; simpa using this⟩
theorem all_congr {l r : List Tree} {d d' : Nat} (h : l.map (xF d) = r.map (xF d')) {C : Tree → Tree → Prop} (hC : ∀ a ∈ l, ∀ b ∈ r, xF d a = xF d' b → C a b) : ∀ (k : Nat) (h1 : k < l.length) (h2 : k < r.length), C l[k] r[k] := fun k h1 h2 => by
  refine hC _ (List.getElem_mem _) _ (List.getElem_mem _) ?_
  have e1 : (l.map (xF d))[k]'(by simpa using h1) = xF d l[k] := by simp
  have e2 : (r.map (xF d'))[k]'(by simpa using h2) = xF d' r[k] := by simp
  rw [← e1, ← e2]
  congr 1
theorem map_congr2 {T : Type} {f g : Tree → T} {d d' : Nat} : ∀ {l r : List Tree}, l.map (xF d) = r.map (xF d') → (∀ a ∈ l, ∀ b ∈ r, xF d a = xF d' b → f a = g b) → l.map f = r.map g
  | [], [], _, _ => rfl
  | a :: l, b :: r, h, k => by
    rw [List.map_cons, List.map_cons] at h
    injection h with h1 h2
    rw [List.map_cons, List.map_cons, k a (by simp) b (by simp) h1, map_congr2 h2 fun x hx y hy => k x (by simp [hx]) y (by simp [hy])]
  | [], _ :: _, h, _ => by cases h
  | _ :: _, [], h, _ => by cases h
theorem nodes_flat {d d' : Nat} : ∀ {l r : List Tree}, l.map (xF d) = r.map (xF d') → (∀ a ∈ l, ∀ b ∈ r, xF d a = xF d' b → Nodes (preF d a) (preF d' b)) → Nodes (l.flatMap (preF d)) (r.flatMap (preF d'))
  | [], [], _, _ => trivial
  | a :: l, b :: r, h, k => by
    rw [List.map_cons, List.map_cons] at h
    injection h with h1 h2
    rw [List.flatMap_cons, List.flatMap_cons]
    exact (k a (by simp) b (by simp) h1).app (nodes_flat h2 fun x hx y hy => k x (by simp [hx]) y (by simp [hy]))
  | [], _ :: _, h, _ => by cases h
  | _ :: _, [], h, _ => by cases h
theorem pre_congr : ∀ {d d' : Nat} {a b : Tree}, Deep d a → Deep d' b → xF d a = xF d' b → Nodes (preF d a) (preF d' b)
  | 0, _, _, _, h, _, _ => h.elim
  | _ + 1, 0, _, _, _, h, _ => h.elim
  | d + 1, d' + 1, a, b, h, k, e => ⟨x_node e, nodes_flat (xF_parts e).2.2.2 fun x hx y hy e2 => pre_congr (h x hx) (k y hy) e2⟩
theorem depth_congr : ∀ {d d' : Nat} {a b : Tree}, Deep d a → Deep d' b → xF d a = xF d' b → depthF d a = depthF d' b
  | 0, _, _, _, h, _, _ => h.elim
  | _ + 1, 0, _, _, _, h, _ => h.elim
  | d + 1, d' + 1, a, b, h, k, e => by
    unfold depthF
    rw [map_congr2 (f := depthF d) (g := depthF d') (xF_parts e).2.2.2 fun x hx y hy e2 => depth_congr (h x hx) (k y hy) e2]
theorem check_congr {d d' : Nat} {a b : Tree} (h : Deep d a) (k : Deep d' b) (e : xF d a = xF d' b) : checkX d a = checkX d' b := by
  have n := pre_congr h k e
  unfold checkX
  rw [depth_congr h k e, n.wide, n.err, n.len]
theorem text_congr (l : List Prod) : ∀ {d d' : Nat} {a b : Tree}, Deep d a → Deep d' b → xF d a = xF d' b → textF l d a = textF l d' b
  | 0, _, _, _, h, _, _ => h.elim
  | _ + 1, 0, _, _, _, h, _ => h.elim
  | d + 1, d' + 1, a, b, h, k, e => by
    obtain ⟨e1, e2, e3, e4⟩ := xF_parts e
    have q := n6_eq e2
    have ih := fun x hx y hy e2 => text_congr l (d := d) (d' := d') (h x hx) (k y hy) e2
    have m1 := map_congr2 (f := fun x => (textF l d x).1) (g := fun x => (textF l d' x).1) e4 fun x hx y hy e2 => by rw [ih x hx y hy e2]
    have m2 := map_congr2 (f := fun x => (textF l d x).2) (g := fun x => (textF l d' x).2) e4 fun x hx y hy e2 => by rw [ih x hx y hy e2]
    have m3 : (a.args.all fun x => (textF l d x).2) = (b.args.all fun x => (textF l d' x).2) := by
      have := congrArg (fun z : List Bool => z.all id) m2
      simpa [List.all_map, Function.comp_def] using this
    unfold textF priceT
    dsimp only
    rw [e1, e3, fmt_congr q, rfits_congr q, m1, m3]
theorem fmtX_congr {l : List Prod} {d d' : Nat} {a b : Tree} (h : Deep d a) (k : Deep d' b) (e : xF d a = xF d' b) : fmtX l d a = fmtX l d' b := by
  unfold fmtX
  rw [check_congr h k e, text_congr l h k e]
/-- what Parse finds ahead of its last check: an error, or the expression -/
noncomputable def parseE (l : List Prod) (s : ByteArray) : Int × X :=
  if checkE l ≠ 0 then (checkE l, x0)
  else if LexErr (lex s) ≠ 0 then (LexErr (lex s), x0)
  else (endE (exprF l ((LexToks (lex s)).length + 7) (LexToks (lex s)) 0).L (exprF l ((LexToks (lex s)).length + 7) (LexToks (lex s)) 0).e, (exprF l ((LexToks (lex s)).length + 7) (LexToks (lex s)) 0).x)
/-- Parse of a text of an expression, with spaces or without -/
theorem parse_lay {l : List Prod} {d : Nat} {e : Tree} (hf : (fmtX l d e).2 = 0) {s : ByteArray} (hl : Lay (itemsF l d e) s.data.toList) (hs : s.size ≤ 4000) : parseE l s = (0, xF d e) := by
  have hz : checkE l = 0 := by
    by_cases h : checkE l = 0
    · exact h
    · rw [fx_1 h] at hf; exact hf
  have hc : checkX d e = 0 := by
    by_cases h : checkX d e = 0
    · exact h
    · rw [fx_2 hz h] at hf; exact hf
  have ht : (textF l d e).2 = true := by
    cases h : (textF l d e).2 with
    | true => rfl
    | false => rw [fx_3 hz hc h] at hf; exact absurd hf (by decide)
  obtain ⟨c1, c2, c3, c4⟩ := checkX_zero hc
  have ha := items_alt l d e c4 ht [] trivial trivial
  rw [List.append_nil] at ha
  obtain ⟨L, e1, e2⟩ := lex_lay s _ ha hl hs
  have hE := expr_tok l d e (L.length + 7) L [] c4 ht (by omega) e2
  unfold parseE
  rw [if_neg (fun h => h hz), e1, if_neg (fun h => h rfl)]
  show (endE (exprF l (L.length + 7) L 0).L (exprF l (L.length + 7) L 0).e, (exprF l (L.length + 7) L 0).x) = _
  rw [hE]
  rfl
theorem fmt_bytes {l : List Prod} {d : Nat} {e : Tree} (hf : (fmtX l d e).2 = 0) : bytesOf (itemsF l d e) = (fmtX l d e).1.data.toList ∧ (fmtX l d e).1.size ≤ 4000 ∧ checkX d e = 0 := by
  have hz : checkE l = 0 := by
    by_cases h : checkE l = 0
    · exact h
    · rw [fx_1 h] at hf; exact hf
  have hc : checkX d e = 0 := by
    by_cases h : checkX d e = 0
    · exact h
    · rw [fx_2 hz h] at hf; exact hf
  have ht : (textF l d e).2 = true := by
    cases h : (textF l d e).2 with
    | true => rfl
    | false => rw [fx_3 hz hc h] at hf; exact absurd hf (by decide)
  have hn : ¬ 4000 < (textF l d e).1.size := fun h => by rw [fx_4 hz hc ht h] at hf; exact absurd hf (by decide)
  rw [fx_5 hz hc ht hn]
  exact ⟨items_bytes l d e (checkX_zero hc).2.2.2 ht, by show (textF l d e).1.size ≤ 4000; omega, hc⟩
theorem parse_fmt {l : List Prod} {d : Nat} {e : Tree} (hf : (fmtX l d e).2 = 0) : parseE l (fmtX l d e).1 = (0, xF d e) := by
  obtain ⟨h1, h2, _⟩ := fmt_bytes hf
  refine parse_lay hf ?_ h2
  rw [← h1]
  exact lay_tight _
end Go.Proofs.YtjjlhihocllgjaaGreatDoor.Ex
