/- Plain: items of a text with spaces between them, and the lexer on it. -/
import Derived.Test.YtjjlhihocllgjaaGreatDoorExG
import Derived.Test.YtjjlhihocllgjaaGreatDoorExB
import Derived.Test.YtjjlhihocllgjaaGreatDoorLexG
import Derived.Test.YtjjlhihocllgjaaGreatDoorCatV
namespace Go.Proofs.YtjjlhihocllgjaaGreatDoor.Ex
open Go.ChangeShapes Go.WideShapes Go.ChangeAt Go.RowKit Gn Cat Lex
set_option linter.unusedVariables false
set_option linter.unusedSimpArgs false
/-- the token is the item's -/
def TokOf (x : LItem) (t : Tok) : Prop := t.kind = (x.kind : Int) ∧ t.text = ⟨x.bytes.toArray⟩ ∧ t.value = (x.value : Int)
/-- the tokens begin with those of the items, R behind them -/
def Tk : List LItem → List Tok → List Tok → Prop
  | [], L, R => L = R
  | x :: T, L, R => ∃ t L', L = t :: L' ∧ TokOf x t ∧ Tk T L' R
theorem tk_append : ∀ {T U : List LItem} {L R : List Tok}, Tk (T ++ U) L R → ∃ M, Tk T L M ∧ Tk U M R
  | [], U, L, R, h => ⟨L, rfl, h⟩
  | x :: T, U, L, R, h => by
    obtain ⟨t, L', e, ht, h⟩ := h
    obtain ⟨M, h1, h2⟩ := tk_append h
    exact ⟨M, ⟨t, L', e, ht, h1⟩, h2⟩
theorem tk_len : ∀ {T : List LItem} {L R : List Tok}, Tk T L R → L.length = T.length + R.length
  | [], L, R, h => by subst h; simp
  | x :: T, L, R, h => by
    obtain ⟨t, L', rfl, ht, h⟩ := h
    have := tk_len h
    simp; omega
def markB (c : UInt8) : Bool := !isLet c && (!isDig c && (isMark c && !isInn c))
/-- a word, a number, a mark -/
def GI (x : LItem) : Prop := (∃ s : ByteArray, nameOk s = true ∧ x = ⟨s.data.toList, 1, 0⟩) ∨ (∃ n : Nat, n ≤ 1000000 ∧ x = ⟨Lib.decDigits n, 2, n⟩) ∨ ∃ c, markB c = true ∧ x = ⟨[c], 3, 0⟩
def headM : List LItem → Prop
  | [] => True
  | x :: _ => x.kind = 3
/-- behind a word or a number comes a mark -/
def Alt : List LItem → Prop
  | [] => True
  | x :: T => GI x ∧ (x.kind = 3 ∨ headM T) ∧ Alt T
abbrev mk_ (c : UInt8) : LItem := ⟨[c], 3, 0⟩
theorem alt_mark {c : UInt8} {T : List LItem} (hc : markB c = true) (h : Alt T) : Alt (mk_ c :: T) := ⟨.inr (.inr ⟨c, hc, rfl⟩), .inl rfl, h⟩
theorem alt_one {x : LItem} {T : List LItem} (hx : GI x) (hm : headM T) (h : Alt T) : Alt (x :: T) := ⟨hx, .inr hm, h⟩
theorem alt_append : ∀ {T U : List LItem}, Alt T → Alt U → headM U → Alt (T ++ U)
  | [], U, _, h, _ => h
  | x :: T, U, h, k, m => by
    obtain ⟨h1, h2, h3⟩ := h
    refine ⟨h1, ?_, alt_append h3 k m⟩
    rcases h2 with h2 | h2
    · exact .inl h2
    · cases T with
      | nil => exact .inr m
      | cons y T => exact .inr h2
/-- the bytes are the items, with spaces ahead of each and behind the last -/
def Lay : List LItem → List UInt8 → Prop
  | [], bs => ∀ c ∈ bs, c = 32
  | x :: T, bs => ∃ k r, bs = List.replicate k 32 ++ (x.bytes ++ r) ∧ Lay T r
theorem lay_tight : ∀ T : List LItem, Lay T (bytesOf T)
  | [] => fun c h => by simp [bytesOf] at h
  | x :: T => ⟨0, bytesOf T, by simp [bytesOf], lay_tight T⟩
theorem mark_stop {c : UInt8} (h : markB c = true) : isLet c = false ∧ isDig c = false ∧ isMark c = true ∧ isInn c = false := by
  unfold markB at h
  simp only [Bool.and_eq_true, Bool.not_eq_true'] at h
  exact ⟨h.1, h.2.1, h.2.2.1, h.2.2.2⟩
theorem lay_stop : ∀ {T : List LItem} {r : List UInt8}, Alt T → headM T → Lay T r → Stops isInn r
  | [], r, _, _, h => fun c t e => by
    have := h c (by rw [e]; simp)
    subst this
    decide
  | x :: T, r, h, m, hl => fun c t e => by
    obtain ⟨k, r', e1, _⟩ := hl
    cases k with
    | succ k =>
      rw [e1, List.replicate_succ, List.cons_append] at e
      injection e with e _
      subst e
      decide
    | zero =>
      rcases h.1 with ⟨s, _, rfl⟩ | ⟨n, _, rfl⟩ | ⟨d, hd, rfl⟩
      · exact absurd (show (1 : Nat) = 3 from m) (by decide)
      · exact absurd (show (2 : Nat) = 3 from m) (by decide)
      · rw [e1] at e
        simp at e
        rw [← e.1]
        exact (mark_stop hd).2.2.2
theorem stops_dig {r : List UInt8} (h : Stops isInn r) : Stops isDig r := fun c t e => by
  have := h c t e
  unfold isInn at this
  simp only [Bool.or_eq_false_iff] at this
  exact this.2.1
/-- digits -/
theorem dec_all : ∀ (n : Nat), ∀ b ∈ Lib.decDigits n, isDig b = true := fun n => by
  induction n using Nat.strongRecOn with
  | _ n ih =>
    have hd (u : Nat) (h : u < 10) : isDig (UInt8.ofNat (48 + u)) = true := by
      obtain rfl | rfl | rfl | rfl | rfl | rfl | rfl | rfl | rfl | rfl : u = 0 ∨ u = 1 ∨ u = 2 ∨ u = 3 ∨ u = 4 ∨ u = 5 ∨ u = 6 ∨ u = 7 ∨ u = 8 ∨ u = 9 := by omega
      all_goals decide
    intro b hb
    by_cases h : n < 10
    · rw [dec_small h] at hb
      obtain rfl := List.mem_singleton.1 hb
      exact hd n h
    · rw [dec_big h] at hb
      rcases List.mem_append.1 hb with hb | hb
      · exact ih (n / 10) (by omega) b hb
      · obtain rfl := List.mem_singleton.1 hb
        exact hd _ (by omega)
theorem dig_val {u : Nat} (h : u < 10) : (UInt8.ofNat (48 + u)).toNat - 48 = u ∧ (u ≠ 0 → (UInt8.ofNat (48 + u)).toNat ≠ 48) := by
  obtain rfl | rfl | rfl | rfl | rfl | rfl | rfl | rfl | rfl | rfl : u = 0 ∨ u = 1 ∨ u = 2 ∨ u = 3 ∨ u = 4 ∨ u = 5 ∨ u = 6 ∨ u = 7 ∨ u = 8 ∨ u = 9 := by omega
  all_goals decide
theorem dec_val : ∀ (n : Nat), val (Lib.decDigits n) = n := fun n => by
  induction n using Nat.strongRecOn with
  | _ n ih =>
    by_cases h : n < 10
    · rw [dec_small h]
      show 0 * 10 + _ = _
      rw [(dig_val h).1]; omega
    · rw [dec_big h, val_snoc, ih (n / 10) (by omega), (dig_val (u := n % 10) (by omega)).1]
      omega
theorem dec_head : ∀ (n : Nat), 0 < n → ∃ c t, Lib.decDigits n = c :: t ∧ c.toNat ≠ 48 := fun n => by
  induction n using Nat.strongRecOn with
  | _ n ih =>
    intro h0
    by_cases h : n < 10
    · exact ⟨_, [], dec_small h, (dig_val h).2 (by omega)⟩
    · obtain ⟨c, t, e, hc⟩ := ih (n / 10) (by omega) (by omega)
      exact ⟨c, t ++ [UInt8.ofNat (48 + n % 10)], by rw [dec_big h, e]; rfl, hc⟩
theorem span_all {p : UInt8 → Bool} : ∀ (l : List UInt8), (∀ b ∈ l, p b = true) → span p l = l.length
  | [], _ => rfl
  | b :: l, h => by rw [span_cons (h b (by simp)), span_all l (fun x hx => h x (by simp [hx]))]; rfl
theorem dig_let {c : UInt8} (h : isDig c = true) : isLet c = false ∧ ¬ c.toNat = 32 := by
  unfold isDig at h
  simp only [Bool.and_eq_true, decide_eq_true_eq] at h
  unfold isLet
  refine ⟨?_, by omega⟩
  simp only [Bool.and_eq_false_iff, decide_eq_false_iff_not]
  left; omega
theorem item_num (n : Nat) (hn : n ≤ 1000000) (r : List UInt8) (hr : Stops isDig r) : one (Lib.decDigits n ++ r) = .ok ⟨2, (Lib.decDigits n).length, n⟩ ∧ ∃ c t, Lib.decDigits n = c :: t ∧ ¬ c.toNat = 32 := by
  have hall := dec_all n
  have hlen := dec_len 6 n (by omega)
  have hv := dec_val n
  have hh : n = 0 ∨ ∃ c t, Lib.decDigits n = c :: t ∧ c.toNat ≠ 48 := by
    rcases Nat.eq_zero_or_pos n with h | h
    · exact .inl h
    · exact .inr (dec_head n h)
  have hne : ∃ c t, Lib.decDigits n = c :: t ∧ (t = [] ∨ c.toNat ≠ 48) := by
    rcases hh with h | ⟨c, t, e, h⟩
    · subst h
      exact ⟨48, [], by rw [dec_small (by omega)]; rfl, .inl rfl⟩
    · exact ⟨c, t, e, .inr h⟩
  obtain ⟨c, t, e, h48⟩ := hne
  rw [e] at hall hlen hv ⊢
  have hc := hall c (by simp)
  obtain ⟨hl, h32⟩ := dig_let hc
  have ht : span isDig (t ++ r) = t.length := span_to t r (span_all t (fun x hx => hall x (by simp [hx]))) hr
  refine ⟨?_, c, t, rfl, h32⟩
  rw [List.cons_append]
  simp only [one, hl, hc, ht, if_true, Bool.false_eq_true, if_false]
  have h9 : ¬ 9 < t.length + 1 := by simp at hlen; omega
  have h1 : ¬ (1 < t.length + 1 ∧ c.toNat = 48) := by
    rintro ⟨q1, q2⟩
    rcases h48 with h | h
    · subst h; simp at q1
    · exact h q2
  rw [if_neg h1, if_neg h9]
  have : (c :: (t ++ r)).take (t.length + 1) = c :: t := by rw [List.take_succ_cons, List.take_left]
  rw [this, hv]
  rfl
theorem one_item {x : LItem} {T : List LItem} {r : List UInt8} (h : Alt (x :: T)) (hl : Lay T r) : one (x.bytes ++ r) = .ok ⟨x.kind, x.bytes.length, x.value⟩ ∧ ∃ c t, x.bytes = c :: t ∧ ¬ c.toNat = 32 := by
  obtain ⟨h1, h2, h3⟩ := h
  rcases h1 with ⟨s, hs, rfl⟩ | ⟨n, hn, rfl⟩ | ⟨d, hd, rfl⟩
  · have m : headM T := h2.resolve_left (fun h => absurd (show (1 : Nat) = 3 from h) (by decide))
    obtain ⟨a, c, t, e, hc⟩ := item_word s hs r (lay_stop h3 m hl)
    exact ⟨a, c, t, e, not_space_of_let hc⟩
  · have m : headM T := h2.resolve_left (fun h => absurd (show (2 : Nat) = 3 from h) (by decide))
    exact item_num n hn r (stops_dig (lay_stop h3 m hl))
  · obtain ⟨a, b, c, e⟩ := mark_stop hd
    refine ⟨item_mark r a b c, d, [], rfl, fun q => ?_⟩
    have : d = 32 := UInt8.toNat_inj.1 q
    subst this
    exact absurd c (by decide)
/-- the spaces ahead -/
theorem lexGo_gap (s : ByteArray) (l : List Tok) (r : List UInt8) : ∀ (g f k : Nat), s.data.toList.drop k = List.replicate g 32 ++ r → s.size < k + f → ∃ f', lexGo s f k l = lexGo s f' (k + g) l ∧ s.size < k + g + f' ∧ s.data.toList.drop (k + g) = r
  | 0, f, k, h, hf => ⟨f, rfl, by omega, by simpa using h⟩
  | g + 1, f, k, h, hf => by
    have hlen : (s.data.toList.drop k).length = (List.replicate (g + 1) (32 : UInt8) ++ r).length := by rw [h]
    rw [drop_len] at hlen
    have hk : k < s.size := by simp at hlen; omega
    obtain ⟨f, rfl⟩ : ∃ f', f = f' + 1 := ⟨f - 1, by omega⟩
    have h0 := drop_cons s k hk
    rw [h, List.replicate_succ, List.cons_append] at h0
    injection h0 with h1 h2
    obtain ⟨f', e1, e2, e3⟩ := lexGo_gap s l r g f (k + 1) h2.symm (by omega)
    refine ⟨f', ?_, by omega, ?_⟩
    · rw [lexGo_space hk (by rw [← h1]; rfl), e1]
      congr 1; omega
    · rw [← e3]; congr 1; omega
theorem lexGo_lay (s : ByteArray) : ∀ (T : List LItem) (f k : Nat) (l : List Tok), Alt T → Lay T (s.data.toList.drop k) → s.size < k + f → ∃ L, lexGo s f k l = .ok (l ++ L) ∧ Tk T L []
  | [], f, k, l, _, hl, hf => by
    have e : s.data.toList.drop k = List.replicate (s.data.toList.drop k).length 32 ++ [] := by
      rw [List.append_nil]
      exact List.eq_replicate_iff.2 ⟨rfl, hl⟩
    obtain ⟨f', e1, e2, e3⟩ := lexGo_gap s l [] _ f k e hf
    have hlen : (s.data.toList.drop (k + (s.data.toList.drop k).length)).length = 0 := by rw [e3]; rfl
    rw [drop_len] at hlen
    refine ⟨[], ?_, rfl⟩
    rw [e1, lexGo_end (by omega), List.append_nil]
  | x :: T, f, k, l, h, hl, hf => by
    obtain ⟨g, r, e, hl2⟩ := hl
    obtain ⟨f', e1, e2, e3⟩ := lexGo_gap s l _ g f k e hf
    obtain ⟨ho, c, t, ec, h32⟩ := one_item h hl2
    have hlen : (s.data.toList.drop (k + g)).length = (x.bytes ++ r).length := by rw [e3]
    rw [drop_len] at hlen
    have hk : k + g < s.size := by rw [ec] at hlen; simp at hlen; omega
    obtain ⟨f', rfl⟩ : ∃ f2, f' = f2 + 1 := ⟨f' - 1, by omega⟩
    have hc : s[k + g] = c := by
      have := drop_cons s (k + g) hk
      rw [e3, ec] at this
      simp only [List.cons_append, List.cons.injEq] at this
      exact this.1.symm
    have hd2 : s.data.toList.drop (k + g + x.bytes.length) = r := by
      rw [← List.drop_drop, e3]
      simp
    have h1 : 1 ≤ x.bytes.length := by rw [ec]; simp
    obtain ⟨L, e5, e6⟩ := lexGo_lay s T f' (k + g + x.bytes.length) (l ++ [oneTok s (k + g) ⟨x.kind, x.bytes.length, x.value⟩]) h.2.2 (by rw [hd2]; exact hl2) (by omega)
    refine ⟨oneTok s (k + g) ⟨x.kind, x.bytes.length, x.value⟩ :: L, ?_, _, L, rfl, ?_, e6⟩
    · rw [e1, lexGo_tok hk (by rw [hc]; exact h32) (by rw [e3]; exact ho), e5]
      simp
    · refine ⟨rfl, ?_, rfl⟩
      unfold oneTok
      dsimp only
      rw [extract_of s (k + g) x.bytes r e3]
theorem lex_lay (s : ByteArray) (T : List LItem) (h : Alt T) (hl : Lay T s.data.toList) (hs : s.size ≤ 4000) : ∃ L, lex s = .ok L ∧ Tk T L [] := by
  unfold lex
  rw [if_neg (by omega)]
  exact lexGo_lay s T _ 0 [] h (by rw [List.drop_zero]; exact hl) (by omega)
end Go.Proofs.YtjjlhihocllgjaaGreatDoor.Ex
