/- Plain: what the shares of a total satisfy; the greedy choice takes them in the same order. -/
import Derived.Test.YtfopmaeaclbknaaDoorPk22
namespace Go.Proofs.YtfopmaeaclbknaaDoor
set_option linter.unusedVariables false
namespace So
theorem sum_set {x : Nat} : ∀ {l : List Nat} {i : Nat}, l[i]? = some x → (l.set i (x + 1)).sum = l.sum + 1
  | [], i, h => by simp at h
  | y :: l, 0, h => by
    obtain rfl : y = x := by simpa using h
    simp only [List.set_cons_zero, List.sum_cons]
    omega
  | y :: l, i + 1, h => by
    have h' : l[i]? = some x := by simpa using h
    have := sum_set h'
    simp only [List.set_cons_succ, List.sum_cons, this]
    omega
theorem le_sum {x : Nat} : ∀ {l : List Nat}, x ∈ l → x ≤ l.sum
  | [], h => by cases h
  | y :: l, h => by
    rw [List.sum_cons]
    rcases List.mem_cons.1 h with rfl | h
    · omega
    · have := le_sum h; omega
theorem perm_sum {l k : List Nat} (h : l.Perm k) : l.sum = k.sum := by
  induction h with
  | nil => rfl
  | cons x _ ih => rw [List.sum_cons, List.sum_cons, ih]
  | swap x y l => simp only [List.sum_cons]; omega
  | trans _ _ h1 h2 => exact h1.trans h2
theorem sum_le {c : Nat} {f : Nat → Nat} : ∀ {l : List Nat}, (∀ x ∈ l, f x ≤ c) → (l.map f).sum ≤ l.length * c
  | [], _ => by simp
  | y :: l, h => by
    have h1 := sum_le (l := l) fun x hx => h x (by simp [hx])
    have h2 := h y (by simp)
    rw [List.map_cons, List.sum_cons, List.length_cons, Nat.succ_mul]
    omega
theorem sum_nil {f : Nat → Nat} : ∀ {l : List Nat}, (∀ x ∈ l, f x = 0) → (l.map f).sum = 0
  | [], _ => by simp
  | y :: l, h => by
    have h1 := sum_nil (l := l) fun x hx => h x (by simp [hx])
    have h2 := h y (by simp)
    rw [List.map_cons, List.sum_cons]
    omega
section
variable {T : Nat} {W : List Nat} {S : Nat} {order : List Nat}
theorem IsOrder.find (h : IsOrder T W S order) {i : Nat} (hi : i < W.length) : ∃ j, ∃ hj : j < order.length, order[j] = i := by
  have := h.1.mem_iff.2 (List.mem_range.2 hi)
  obtain ⟨j, hj, e⟩ := List.mem_iff_getElem.1 this
  exact ⟨j, hj, e⟩
theorem IsOrder.before (h : IsOrder T W S order) {i j : Nat} (hij : i < j) (hj : j < order.length) : LT (rst T W S) (order[i]'(by omega)) order[j] :=
  List.pairwise_iff_getElem.1 h.2 i j (by omega) hj hij
theorem mem_take (h : IsOrder T W S order) {j m : Nat} (hj : j < order.length) : order[j] ∈ order.take m ↔ j < m := by
  constructor
  · intro hm
    obtain ⟨i, hi, e⟩ := List.mem_iff_getElem.1 hm
    rw [List.getElem_take] at e
    have hi' : i < m ∧ i < order.length := by simp at hi; omega
    by_cases c : i = j
    · omega
    · exact absurd e ((List.pairwise_iff_getElem.1 (List.nodup_iff_pairwise_ne.1 h.nodup)) |> fun f => by
        rcases Nat.lt_or_gt_of_ne c with c | c
        · exact f i j hi'.2 hj c
        · exact fun e' => f j i hj hi'.2 c e'.symm)
  · intro hm
    exact List.mem_iff_getElem.2 ⟨j, by simp; omega, by rw [List.getElem_take]⟩
theorem left_eq (hSS : S = sumN W W.length) (hS : 0 < S) : rsum T W S W.length = (T - psum T W S W.length) * S := by
  have h1 := parts_sum (T := T) (S := S) (Nat.le_refl W.length)
  rw [← hSS] at h1
  rw [Nat.sub_mul, Nat.mul_comm (psum T W S W.length)]
  omega
theorem fin_sum (h : IsOrder T W S order) : ∀ {m : Nat}, m ≤ W.length → (fin T W S order m).sum = psum T W S W.length + m
  | 0, _ => by rw [fin_zero]; rfl
  | m + 1, hm => by
    have hl : m < order.length := by rw [h.len]; omega
    have h1 := fin_step (T := T) (S := S) h.nodup hl (h.lt (List.getElem_mem hl))
    rw [← h1.2, sum_set h1.1, fin_sum h (by omega)]
    omega
theorem shares_sum (h : IsOrder T W S order) (hS : 0 < S) (hSS : S = sumN W W.length) : (shares T W S order).sum = T := by
  unfold shares
  have h1 := left_lt (T := T) hS hSS
  have h2 := psum_le (T := T) (Nat.le_refl W.length) hS (Nat.le_of_eq hSS.symm)
  rw [fin_sum h (by omega)]
  omega
theorem rst_pos (h : IsOrder T W S order) (hS : 0 < S) (hSS : S = sumN W W.length) {t : Nat} (ht : t < T - psum T W S W.length) (hl : t < order.length) : 0 < rst T W S order[t] := by
  refine Nat.pos_of_ne_zero fun h0 => ?_
  have e1 : rsum T W S W.length = (order.map (rst T W S)).sum := by
    unfold rsum
    exact (perm_sum (h.1.map _)).symm
  have e2 : (order.map (rst T W S)).sum = ((order.take t).map (rst T W S)).sum + ((order.drop t).map (rst T W S)).sum := by
    conv => lhs; rw [← List.take_append_drop t order]
    rw [List.map_append, List.sum_append]
  have e3 : ((order.drop t).map (rst T W S)).sum = 0 := sum_nil fun x hx => by
    obtain ⟨j, hj, rfl⟩ := List.mem_iff_getElem.1 hx
    rw [List.getElem_drop]
    have hj' : t + j < order.length := by simp at hj; omega
    by_cases c : j = 0
    · subst c; exact h0
    · have := h.before (show t < t + j by omega) hj'
      unfold LT at this
      omega
  have e4 : ((order.take t).map (rst T W S)).sum ≤ (order.take t).length * (S - 1) := sum_le fun x _ => by
    have : rst T W S x < S := Nat.mod_lt _ hS
    omega
  have e5 : (order.take t).length = t := by simp; omega
  rw [e5] at e4
  have e6 := left_eq (T := T) hSS hS
  have e7 : (t + 1) * S ≤ (T - psum T W S W.length) * S := Nat.mul_le_mul_right _ ht
  have e8 : t * (S - 1) ≤ t * S := Nat.mul_le_mul_left _ (by omega)
  rw [Nat.succ_mul] at e7
  omega
theorem shares_len : (shares T W S order).length = W.length := fin_len
/-- one of two values -/
theorem shares_at {i : Nat} (hi : i < W.length) : (shares T W S order)[i]'(by rw [shares_len]; exact hi) = prt T W S i + if i ∈ order.take (T - psum T W S W.length) then 1 else 0 := by
  have := fin_at (T := T) (S := S) (m := T - psum T W S W.length) (order := order) hi
  have h2 : (shares T W S order)[i]? = some (prt T W S i + if i ∈ order.take (T - psum T W S W.length) then 1 else 0) := this
  rw [List.getElem?_eq_getElem (by rw [shares_len]; exact hi)] at h2
  exact Option.some.inj h2
theorem shares_le (h : IsOrder T W S order) (hS : 0 < S) (hSS : S = sumN W W.length) {i : Nat} (hi : i < (shares T W S order).length) : (shares T W S order)[i] ≤ T := by
  have := le_sum (List.getElem_mem hi)
  rw [shares_sum h hS hSS] at this
  exact this
/-- less than one unit from the proportion -/
theorem shares_near (h : IsOrder T W S order) (hS : 0 < S) (hSS : S = sumN W W.length) {i : Nat} (hi : i < W.length) : (shares T W S order)[i]'(by rw [shares_len]; exact hi) * S < T * at_ W i + S ∧ T * at_ W i < (shares T W S order)[i]'(by rw [shares_len]; exact hi) * S + S := by
  have h2 : S * prt T W S i + rst T W S i = T * at_ W i := Nat.div_add_mod _ _
  have h3 : rst T W S i < S := Nat.mod_lt _ hS
  have h4 : prt T W S i * S = S * prt T W S i := Nat.mul_comm _ _
  rw [shares_at hi, Nat.add_mul]
  split
  · rename_i hm
    obtain ⟨j, hj, e⟩ := h.find hi
    rw [← e, mem_take h hj] at hm
    have hp := rst_pos h hS hSS hm hj
    rw [e] at hp
    omega
  · omega
/-- a greater weight has no smaller share -/
theorem shares_mono (h : IsOrder T W S order) (hS : 0 < S) (hSS : S = sumN W W.length) {i k : Nat} (hi : i < W.length) (hk : k < W.length) (hw : at_ W k < at_ W i) : (shares T W S order)[k]'(by rw [shares_len]; exact hk) ≤ (shares T W S order)[i]'(by rw [shares_len]; exact hi) := by
  have hle : T * at_ W k ≤ T * at_ W i := Nat.mul_le_mul_left _ (by omega)
  have hp : prt T W S k ≤ prt T W S i := Nat.div_le_div_right hle
  have a1 : S * prt T W S i + rst T W S i = T * at_ W i := Nat.div_add_mod _ _
  have a2 : S * prt T W S k + rst T W S k = T * at_ W k := Nat.div_add_mod _ _
  rw [shares_at hi, shares_at hk]
  by_cases e : prt T W S k = prt T W S i
  · by_cases hm : k ∈ order.take (T - psum T W S W.length)
    · obtain ⟨j, hj, ej⟩ := h.find hk
      obtain ⟨x, hx, ex⟩ := h.find hi
      have hm' := hm
      rw [← ej, mem_take h hj] at hm'
      have hr := rst_pos h hS hSS hm' hj
      rw [ej] at hr
      have hT : 0 < T := Nat.pos_of_ne_zero fun h0 => by
        subst h0
        simp [rst] at hr
      have hlt : T * at_ W k < T * at_ W i := Nat.mul_lt_mul_of_pos_left hw hT
      rw [e] at a2
      have hrr : rst T W S k < rst T W S i := by omega
      have hxj : x < j := by
        rcases Nat.lt_trichotomy x j with c | c | c
        · exact c
        · subst c
          have e9 : i = k := ex.symm.trans ej
          rw [e9] at hw
          exact absurd hw (Nat.lt_irrefl _)
        · have := h.before c hx
          rw [ex, ej] at this
          unfold LT at this
          omega
      have : i ∈ order.take (T - psum T W S W.length) := by
        rw [← ex, mem_take h hx]; omega
      rw [if_pos hm, if_pos this]
      omega
    · rw [if_neg hm]
      split <;> omega
  · split <;> split <;> omega
/-- what is left of the parts, when m have got theirs -/
def gv (T : Nat) (W : List Nat) (S : Nat) (order : List Nat) (m : Nat) : Nat → Int := fun i => if i ∈ order.take m then -1 else ((rst T W S i : Nat) : Int)
/-- the first of the greatest is the next of the order -/
theorem best_is (h : IsOrder T W S order) {t b : Nat} (ht : t < order.length) (hb : b < W.length) (h1 : ∀ k, k < W.length → gv T W S order t k ≤ gv T W S order t b) (h2 : ∀ k, k < b → gv T W S order t k < gv T W S order t b) : b = order[t] := by
  have ho : order[t] < W.length := h.lt (List.getElem_mem ht)
  have n1 : order[t] ∉ order.take t := by rw [mem_take h ht]; omega
  have g1 : gv T W S order t order[t] = ((rst T W S order[t] : Nat) : Int) := by unfold gv; rw [if_neg n1]
  have n2 : b ∉ order.take t := by
    intro hm
    have h3 := h1 _ ho
    have g2 : gv T W S order t b = -1 := by unfold gv; rw [if_pos hm]
    rw [g1, g2] at h3
    omega
  have g2 : gv T W S order t b = ((rst T W S b : Nat) : Int) := by unfold gv; rw [if_neg n2]
  obtain ⟨j, hj, ej⟩ := h.find hb
  have hjt : t ≤ j := by
    rw [← ej, mem_take h hj] at n2
    omega
  by_cases c : j = t
  · subst c; exact ej.symm
  · have hlt := h.before (show t < j by omega) hj
    rw [ej] at hlt
    have h3 := h1 _ ho
    rw [g1, g2] at h3
    rcases hlt with hlt | ⟨he, hlt⟩
    · omega
    · have := h2 _ hlt
      rw [g1, g2] at this
      omega
theorem gv_step (h : IsOrder T W S order) {t : Nat} (ht : t < order.length) (i : Nat) : gv T W S order (t + 1) i = if i = order[t] then -1 else gv T W S order t i := by
  have h2 : order.take (t + 1) = order.take t ++ [order[t]] := List.take_succ_eq_append_getElem ht
  unfold gv
  rw [h2]
  by_cases c : i = order[t]
  · rw [if_pos c, if_pos (List.mem_append_right _ (List.mem_singleton.2 c))]
  · rw [if_neg c]
    by_cases hm : i ∈ order.take t
    · rw [if_pos hm, if_pos (List.mem_append_left _ hm)]
    · rw [if_neg hm, if_neg (fun hh => (List.mem_append.1 hh).elim hm fun h3 => c (List.mem_singleton.1 h3))]
end
end So
end Go.Proofs.YtfopmaeaclbknaaDoor
