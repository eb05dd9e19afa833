/- Contract of one: marks and the rest. Plain: tokens, and what Tokens computes. Contract of one, all cases joined. Contract of Tokens. Contract of the reference's One. Contract of the reference's Tokens. Contracts of like and equal on equal lists. Plain: a scanner in memory, and what its calls compute. -/
import Derived.Test.YtjjlhihocllgjaaDoorPe00
namespace Go.Proofs.YtjjlhihocllgjaaDoor
open Go.ChangeShapes Go.WideShapes Go.ChangeAt Go.RowKit
set_option linter.unusedVariables false
set_option linter.unusedSimpArgs false
namespace Lex
theorem one_none (s : ByteArray) (a : Nat) (w : World) (hs : s.size ≤ 5000) (ha : a < s.size) (hl : isLet s[a] = false) (hg : isDig s[a] = false) (hm : isMark s[a] = false) :
    Calls Tryd.prog 65 #[.string s, .int .i64 (a : Int)] w fun e w' => e = .returned (.tuple #[.agg #[.int .i64 0, .string ⟨#[]⟩, .int .i64 0, .int .i64 0], .int .i64 2]) ∧ Below w.heap.size w w' := by
  have hb := s[a].toNat_lt
  have CL := Lib.hid (letter_any s[a])
  have CD := Lib.hid (digit_any s[a])
  have WB := Lib.hid (wrap32_byte s[a])
  have CC := Lib.hid (containsRune_any s[a])
  unfold marks at CC
  go_enter Tryd.func65, Tryd.ntmps65
  go_wp2_with (first | (go_at_call 89; (try rw [WB.out]); refine (CL.out _).mono ?_; rintro e w' ⟨rfl, rfl⟩; rw [hl]) | (go_at_call 97; (try rw [WB.out]); refine (CD.out _).mono ?_; rintro e w' ⟨rfl, rfl⟩; rw [hg]) | fail)
  refine (CC.out _).mono ?_
  rintro e w1 ⟨rfl, b1⟩
  rw [hm]
  have B := Lib.hid (chain2 (Below.refl _ _) b1)
  have hB := (((Blk.new w 92 #[.int .i64 0, .string ⟨#[]⟩, .int .i64 0, .int .i64 0]).alloc _)).below' b1
  have hc := hB.c4
  clear b1
  go_wp2_with fail
  have hB4 := (((hB.put 0 (.int .i64 0)).put 1 (.string ⟨#[]⟩)).put 2 (.int .i64 0)).put 3 (.int .i64 0)
  refine bodyPost_ret (v := .tuple #[.agg #[.int .i64 0, .string ⟨#[]⟩, .int .i64 0, .int .i64 0], .int .i64 2]) (results_blk_tmp (p := 4) (u := 5) rfl rfl hB4 Tryd.underlying92 rfl (by kernel_rfl) rfl) rfl ⟨rfl, ?_⟩
  exact (((B.out.setCell (Nat.le_refl _) _).setCell (Nat.le_refl _) _).setCell (Nat.le_refl _) _).setCell (Nat.le_refl _) _

theorem one_mark (s : ByteArray) (a : Nat) (w : World) (hs : s.size ≤ 5000) (ha : a < s.size) (hl : isLet s[a] = false) (hg : isDig s[a] = false) (hm : isMark s[a] = true) :
    Calls Tryd.prog 65 #[.string s, .int .i64 (a : Int)] w fun e w' => e = .returned (.tuple #[.agg #[.int .i64 3, .string (s.extract a (a + 1)), .int .i64 0, .int .i64 (a : Int)], .int .i64 0]) ∧ Below w.heap.size w w' := by
  have hb := s[a].toNat_lt
  have CL := Lib.hid (letter_any s[a])
  have CD := Lib.hid (digit_any s[a])
  have WB := Lib.hid (wrap32_byte s[a])
  have CC := Lib.hid (containsRune_any s[a])
  unfold marks at CC
  go_enter Tryd.func65, Tryd.ntmps65
  go_wp2_with (first | (go_at_call 89; (try rw [WB.out]); refine (CL.out _).mono ?_; rintro e w' ⟨rfl, rfl⟩; rw [hl]) | (go_at_call 97; (try rw [WB.out]); refine (CD.out _).mono ?_; rintro e w' ⟨rfl, rfl⟩; rw [hg]) | fail)
  refine (CC.out _).mono ?_
  rintro e w1 ⟨rfl, b1⟩
  rw [hm]
  have B := Lib.hid (chain2 (Below.refl _ _) b1)
  have hB := (((Blk.new w 92 #[.int .i64 0, .string ⟨#[]⟩, .int .i64 0, .int .i64 0]).alloc (.cells #[.int .i64 0, .string ⟨#[]⟩, .int .i64 0, .int .i64 (a : Int)] 92))).below' b1
  have hB2 := (Blk.new (w.alloc (.cells #[.int .i64 0, .string ⟨#[]⟩, .int .i64 0, .int .i64 0] 92)) 92 #[.int .i64 0, .string ⟨#[]⟩, .int .i64 0, .int .i64 (a : Int)]).below' b1
  have hc := hB.c4
  have hc2 := hB2.c4
  simp at hc2
  have hz : (w.alloc (.cells #[.int .i64 0, .string ⟨#[]⟩, .int .i64 0, .int .i64 0] 92)).heap.size = w.heap.size + 1 := by simp
  rw [hz] at hB2
  clear hz
  clear b1
  go_wp2_with fail
  have i1 : IntKind.i64.wrap ((a : Int) + 1) = (a : Int) + 1 := IntWalk.i64_in _ (by omega)
  have i2 : ((a : Int) + 1).toNat = a + 1 := by omega
  have i3 : (0 : Int) ≤ (a : Int) + 1 := by omega
  have i4 : (a : Int) ≤ (a : Int) + 1 := by omega
  have i5 : a ≤ a + 1 := by omega
  have i6 : a + 1 ≤ s.size := by omega
  have i7 : (a : Int) + 1 ≤ (s.size : Int) := by omega
  go_region
  all_goals go_wp2_with fail
  have hB5 := (((((hB.far (p := ⟨w.heap.size + 1, 0, none⟩) (by show _ ≠ w.heap.size + 1; omega) (.int .i64 3)).far (p := ⟨w.heap.size + 1, 1, none⟩) (by show _ ≠ w.heap.size + 1; omega) (.string (s.extract a (a + 1)))).put 0 (.int .i64 3)).put 1 (.string (s.extract a (a + 1)))).put 2 (.int .i64 0)).put 3 (.int .i64 (a : Int))
  refine bodyPost_ret (v := .tuple #[.agg #[.int .i64 3, .string (s.extract a (a + 1)), .int .i64 0, .int .i64 (a : Int)], .int .i64 0]) (results_blk_tmp (p := 4) (u := 5) rfl rfl hB5.drew Tryd.underlying92 rfl (by kernel_rfl) rfl) rfl ⟨rfl, ?_⟩
  exact ((((((B.out.setCell (Nat.le_succ _) _).setCell (Nat.le_succ _) _).setCell (Nat.le_refl _) _).setCell (Nat.le_refl _) _).setCell (Nat.le_refl _) _).setCell (Nat.le_refl _) _).drew
end Lex
end Go.Proofs.YtjjlhihocllgjaaDoor
namespace Go.Proofs.YtjjlhihocllgjaaDoor
open Go.ChangeShapes Go.WideShapes Go.ChangeAt Go.RowKit
namespace Lex
structure Tok where
  kind : Int
  text : ByteArray
  value : Int
  pos : Int
def Tok.none : Tok := ⟨0, ⟨#[]⟩, 0, 0⟩
abbrev Tok.cells (t : Tok) : List Value := [.int .i64 t.kind, .string t.text, .int .i64 t.value, .int .i64 t.pos]
def cellsOf (l : List Tok) : List Value := l.flatMap Tok.cells
theorem cellsOf_snoc (l : List Tok) (t : Tok) : cellsOf (l ++ [t]) = cellsOf l ++ t.cells := by simp [cellsOf]
theorem cellsOf_len (l : List Tok) : (cellsOf l).length = l.length * 4 := by
  unfold cellsOf
  induction l with
  | nil => rfl
  | cons t l ih =>
    rw [List.flatMap_cons, List.length_append, ih, List.length_cons]
    show 4 + _ = _
    rw [List.length_cons]
    omega
theorem cellsOf_at (l : List Tok) (i : Nat) (hi : i < l.length) : (cellsOf l)[i * 4]? = some (.int .i64 l[i].kind) ∧ (cellsOf l)[i * 4 + 1]? = some (.string l[i].text) ∧ (cellsOf l)[i * 4 + 2]? = some (.int .i64 l[i].value) ∧ (cellsOf l)[i * 4 + 3]? = some (.int .i64 l[i].pos) := by
  induction l generalizing i with
  | nil => simp at hi
  | cons t l ih =>
    cases i with
    | zero => simp [cellsOf]
    | succ i =>
      have h := ih i (by simpa using hi)
      have e : ∀ j, (cellsOf (t :: l))[(i + 1) * 4 + j]? = (cellsOf l)[i * 4 + j]? := by
        intro j
        rw [show (i + 1) * 4 + j = 4 + (i * 4 + j) by omega]
        show (t.cells ++ cellsOf l)[4 + (i * 4 + j)]? = _
        rw [List.getElem?_append_right (by simp)]
        simp
      have e0 := e 0
      simp only [Nat.add_zero] at e0
      rw [e0, e 1, e 2, e 3]
      exact h
/-- a row of tokens in memory -/
def TokRow (w : World) (b o : Nat) (L : List Tok) : Prop := ∀ j u, (cellsOf L)[j]? = some u → w.cell? ⟨b, o + j, none⟩ = some u
theorem TokRow.at_ {w : World} {b o : Nat} {L : List Tok} (h : TokRow w b o L) (k : Nat) (hk : k < L.length) :
    w.cell? ⟨b, o + k * 4, none⟩ = some (.int .i64 L[k].kind) ∧ w.cell? ⟨b, o + k * 4 + 1, none⟩ = some (.string L[k].text) ∧ w.cell? ⟨b, o + k * 4 + 2, none⟩ = some (.int .i64 L[k].value) ∧ w.cell? ⟨b, o + k * 4 + 3, none⟩ = some (.int .i64 L[k].pos) := by
  obtain ⟨e0, e1, e2, e3⟩ := cellsOf_at L k hk
  exact ⟨h _ _ e0, h _ _ e1, h _ _ e2, h _ _ e3⟩
/-- a token and an error number -/
def oneTok (s : ByteArray) (a : Nat) (p : Piece) : Tok := ⟨p.kind, s.extract a (a + p.len), p.value, a⟩
def lexGo (s : ByteArray) : Nat → Nat → List Tok → Except Int (List Tok)
  | 0, _, l => .ok l
  | f + 1, k, l =>
    if h : k < s.size then
      if s[k].toNat = 32 then lexGo s f (k + 1) l
      else match one (s.data.toList.drop k) with
        | .error e => .error e
        | .ok p => lexGo s f (k + p.len) (l ++ [oneTok s k p])
    else .ok l
def lex (s : ByteArray) : Except Int (List Tok) := if 4000 < s.size then .error 3 else lexGo s (s.size + 1) 0 []
theorem lexGo_space {s : ByteArray} {f k : Nat} {l : List Tok} (h : k < s.size) (h1 : s[k].toNat = 32) : lexGo s (f + 1) k l = lexGo s f (k + 1) l := by
  simp only [lexGo, dif_pos h, if_pos h1]
theorem lexGo_tok {s : ByteArray} {f k : Nat} {l : List Tok} {p : Piece} (h : k < s.size) (h1 : ¬ s[k].toNat = 32) (h2 : one (s.data.toList.drop k) = .ok p) : lexGo s (f + 1) k l = lexGo s f (k + p.len) (l ++ [oneTok s k p]) := by
  simp only [lexGo, dif_pos h, if_neg h1, h2]
theorem lexGo_err {s : ByteArray} {f k : Nat} {l : List Tok} {e : Int} (h : k < s.size) (h1 : ¬ s[k].toNat = 32) (h2 : one (s.data.toList.drop k) = .error e) : lexGo s (f + 1) k l = .error e := by
  simp only [lexGo, dif_pos h, if_neg h1, h2]
theorem lexGo_end {s : ByteArray} {f k : Nat} {l : List Tok} (h : s.size ≤ k) : lexGo s f k l = .ok l := by
  cases f with
  | zero => rfl
  | succ f => simp only [lexGo, dif_neg (show ¬ k < s.size by omega)]
theorem one_err {l : List UInt8} {e : Int} (h : one l = .error e) : e = 2 ∨ e = 3 ∨ e = 4 := by
  cases l with
  | nil => injection h with h; exact .inl h.symm
  | cons b l =>
    simp only [one] at h
    repeat' split at h
    all_goals first
      | (cases h; done)
      | (injection h with h; subst h; simp)
end Lex
end Go.Proofs.YtjjlhihocllgjaaDoor
namespace Go.Proofs.YtjjlhihocllgjaaDoor
open Go.ChangeShapes Go.WideShapes Go.ChangeAt Go.RowKit
set_option linter.unusedVariables false
set_option linter.unusedSimpArgs false
namespace Lex
theorem span_head {p : UInt8 → Bool} {b : UInt8} {l : List UInt8} (h : p b = true) : span p l + 1 = span p (b :: l) := (span_cons h).symm
theorem inn_of_let {b : UInt8} (h : isLet b = true) : isInn b = true := by simp [isInn, h]
theorem span_all (p : UInt8 → Bool) : ∀ (l : List UInt8) (i : Nat) (h : i < span p l) (h2 : i < l.length), p l[i] = true
  | [], _, h, _ => by simp [span] at h
  | b :: l, i, h, h2 => by
    unfold span at h
    split at h
    · rename_i hb
      cases i with
      | zero => exact hb
      | succ i => exact span_all p l i (by omega) (by simpa using h2)
    · omega
theorem extract_get (s : ByteArray) (a n k : Nat) (h : a + n ≤ s.size) (hk : k < (s.extract a (a + n)).size) : (s.extract a (a + n))[k] = s.data.toList[a + k]'(by simp at hk; simp; omega) := by
  simp [ByteArray.getElem_eq_getElem_data]

theorem one_any (s : ByteArray) (a : Nat) (w : World) (hs : s.size ≤ 5000) (ha : a < s.size) (p : Piece) (h : one (s.data.toList.drop a) = .ok p) :
    Calls Tryd.prog 65 #[.string s, .int .i64 (a : Int)] w fun e w' => e = .returned (.tuple #[.agg #[.int .i64 (p.kind : Int), .string (s.extract a (a + p.len)), .int .i64 (p.value : Int), .int .i64 (a : Int)], .int .i64 0]) ∧ Below w.heap.size w w' := by
  rw [drop_cons s a ha] at h
  simp only [one] at h
  have hrun : ∀ q, q s[a] = true → runLen q s a = span q (s.data.toList.drop (a + 1)) + 1 := fun q hq => by
    unfold runLen
    rw [drop_cons s a ha, span_cons hq]
  cases hl : isLet s[a] with
  | true =>
    rw [if_pos hl] at h
    have hr := hrun isInn (inn_of_let hl)
    split at h
    · cases h
    · injection h with h
      subst h
      have := one_word s a w hs ha hl (by omega)
      rw [hr] at this
      exact this
  | false =>
    rw [if_neg (by simp [hl])] at h
    cases hg : isDig s[a] with
    | true =>
      rw [if_pos hg] at h
      have hr := hrun isDig hg
      split at h
      · cases h
      · rename_i hz
        split at h
        · cases h
        · rename_i h9
          injection h with h
          subst h
          have hle := runLen_le isDig s a (by omega)
          have hsz : (s.extract a (a + runLen isDig s a)).size = runLen isDig s a := by simp; omega
          have hn := fun w => number_good (s.extract a (a + runLen isDig s a)) w (by omega)
            (fun h1 => by
              rw [extract_get s a _ 0 hle]
              have e0 : s.data.toList[a + 0]'(by simp; omega) = s[a] := rfl
              rw [e0]
              intro h48
              exact hz ⟨by omega, h48⟩)
            (fun k hk => by
              rw [extract_get s a _ k hle]
              have hkk : k < span isDig (s.data.toList.drop a) := by rw [hsz] at hk; exact hk
              have := span_all isDig (s.data.toList.drop a) k hkk (by have := span_le isDig (s.data.toList.drop a); omega)
              simpa using this)
          have := one_num s (s.extract a (a + runLen isDig s a)) a w hs ha hl hg rfl _ hn
          rw [hr] at this
          have e : (s.extract a (a + (span isDig (s.data.toList.drop (a + 1)) + 1))).data.toList = (s[a] :: s.data.toList.drop (a + 1)).take (span isDig (s.data.toList.drop (a + 1)) + 1) := by
            rw [← drop_cons s a ha]
            simp [List.extract]
          rw [e] at this
          exact this
    | false =>
      rw [if_neg (by simp [hg])] at h
      cases hm : isMark s[a] with
      | true =>
        rw [if_pos hm] at h
        injection h with h
        subst h
        exact one_mark s a w hs ha hl hg hm
      | false =>
        rw [if_neg (by simp [hm])] at h
        cases h
theorem one_bad (s : ByteArray) (a : Nat) (w : World) (hs : s.size ≤ 5000) (ha : a < s.size) (x : Int) (h : one (s.data.toList.drop a) = .error x) :
    Calls Tryd.prog 65 #[.string s, .int .i64 (a : Int)] w fun e w' => e = .returned (.tuple #[.agg #[.int .i64 0, .string ⟨#[]⟩, .int .i64 0, .int .i64 0], .int .i64 x]) ∧ Below w.heap.size w w' := by
  rw [drop_cons s a ha] at h
  simp only [one] at h
  have hrun : ∀ q, q s[a] = true → runLen q s a = span q (s.data.toList.drop (a + 1)) + 1 := fun q hq => by
    unfold runLen
    rw [drop_cons s a ha, span_cons hq]
  cases hl : isLet s[a] with
  | true =>
    rw [if_pos hl] at h
    have hr := hrun isInn (inn_of_let hl)
    split at h
    · injection h with h
      subst h
      exact one_long s a w hs ha hl (by omega)
    · cases h
  | false =>
    rw [if_neg (by simp [hl])] at h
    cases hg : isDig s[a] with
    | true =>
      rw [if_pos hg] at h
      have hr := hrun isDig hg
      have hle := runLen_le isDig s a (by omega)
      have hsz : (s.extract a (a + runLen isDig s a)).size = runLen isDig s a := by simp; omega
      have e0 : ∀ h, (s.extract a (a + runLen isDig s a))[0]'h = s[a] := fun h => extract_get s a _ 0 hle h
      split at h
      · rename_i hz
        injection h with h
        subst h
        exact one_numerr s (s.extract a (a + runLen isDig s a)) a w hs ha hl hg rfl 2 (.inl rfl) (fun w => number_zero _ w (by unfold maxLen; omega) (by omega) (by rw [e0]; exact hz.2))
      · rename_i hz
        split at h
        · rename_i h9
          injection h with h
          subst h
          exact one_numerr s (s.extract a (a + runLen isDig s a)) a w hs ha hl hg rfl 4 (.inr rfl) (fun w => number_long _ w (by unfold maxLen; omega) (by omega) (by rw [e0]; intro h48; exact hz ⟨by omega, h48⟩))
        · cases h
    | false =>
      rw [if_neg (by simp [hg])] at h
      cases hm : isMark s[a] with
      | true =>
        rw [if_pos hm] at h
        cases h
      | false =>
        rw [if_neg (by simp [hm])] at h
        injection h with h
        subst h
        exact one_none s a w hs ha hl hg hm
end Lex
end Go.Proofs.YtjjlhihocllgjaaDoor
namespace Go.Proofs.YtjjlhihocllgjaaDoor
open Go.ChangeShapes Go.WideShapes Go.ChangeAt Go.RowKit
namespace Lex
theorem tok_info : (Tryd.prog.info? 92).map (fun i => (i.zero, i.size, i.bytes)) = some (some (.agg #[.int .i64 0, .string ⟨#[]⟩, .int .i64 0, .int .i64 0]), 4, 40) := by kernel_rfl
theorem four_new (w : World) (a b c d : Value) (t : TypeId) : ∀ j u, [a, b, c, d][j]? = some u → (w.alloc (.cells #[a, b, c, d] t)).cell? ((⟨w.heap.size, 0, none⟩ : Addr).add j) = some u := by
  intro j u h
  have hb := Blk.new w t #[a, b, c, d]
  have e : (⟨w.heap.size, 0, none⟩ : Addr).add j = ⟨w.heap.size, j, none⟩ := by
    unfold Addr.add
    split
    · rename_i e; subst e; rfl
    · simp
  rw [e, hb.cell j]
  simpa using h
theorem one_cells4 {a b c d : Value} (ha : a.oneCell' = true) (hb : b.oneCell' = true) (hc : c.oneCell' = true) (hd : d.oneCell' = true) : ∀ u ∈ [a, b, c, d], u.oneCell' = true := by
  intro u hu
  simp at hu
  rcases hu with rfl | rfl | rfl | rfl <;> assumption
def LexErr (r : Except Int (List Tok)) : Int := match r with | .ok _ => 0 | .error e => e
def LexToks (r : Except Int (List Tok)) : List Tok := match r with | .ok l => l | .error _ => []
/-- what Tokens comes to -/
def TokPost (t : TypeId) (r : Except Int (List Tok)) (w : World) (e : Ending) (w' : World) : Prop :=
  ∃ v, e = .returned (.tuple #[v, .int .i64 (LexErr r)]) ∧ w'.ownsRow w.heap.size t 4 v (LexToks r).length (cellsOf (LexToks r)) ∧ Below w.heap.size w w'
theorem TokPost.bad {t : TypeId} {x : Int} {w w' : World} (h : Below w.heap.size w w') : TokPost t (.error x) w (.returned (.tuple #[.slice none 0 0, .int .i64 x])) w' :=
  ⟨_, rfl, World.ownsRow_nil _ _ _ _, h⟩
theorem TokPost.good {t : TypeId} {l : List Tok} {v : Value} {w w' : World} (ho : w'.ownsRow w.heap.size t 4 v l.length (cellsOf l)) (h : Below w.heap.size w w') : TokPost t (.ok l) w (.returned (.tuple #[v, .int .i64 0])) w' :=
  ⟨_, rfl, ho, h⟩
theorem tokens_long (s : ByteArray) (w : World) (hs : s.size ≤ maxLen) (h : 4000 < s.size) : Calls Tryd.prog 28 #[.string s] w (TokPost 92 (lex s) w) := by
  have hx : lex s = .error 3 := by unfold lex; rw [if_pos h]
  rw [hx]
  unfold maxLen at hs
  have hd : decide ((4000 : Int) < (s.size : Int)) = true := by simp; omega
  go_enter Tryd.func28, Tryd.ntmps28
  go_wp2_with fail
  go_ret2
  exact TokPost.bad (Below.refl _ _)
set_option maxRecDepth 100000 in
set_option maxHeartbeats 800000 in
theorem tokens_short (s : ByteArray) (w : World) (h : s.size ≤ 4000) : Calls Tryd.prog 28 #[.string s] w (TokPost 92 (lex s) w) := by
  have hx : lex s = lexGo s (s.size + 1) 0 [] := by unfold lex; rw [if_neg (by omega)]
  rw [hx]
  have hd0 : decide ((4000 : Int) < (s.size : Int)) = false := by simp; omega
  obtain ⟨i0, hi0, hz0, hz1, hz2⟩ := info_parts tok_info
  go_enter Tryd.func28, Tryd.ntmps28
  go_wp2_with fail
  go_loopw [4, 5] (fun v i wr => ∃ (k f : Nat) (L : List Tok), k ≤ s.size ∧ s.size < k + f ∧ L.length ≤ k ∧ i = .int .i64 (k : Int) ∧ Hid (lexGo s f k L = lexGo s (s.size + 1) 0 []) ∧ Hid (wr.ownsRow w.heap.size 92 4 v L.length (cellsOf L)) ∧ Hid (Below w.heap.size w wr)) (fun _ i _ => s.size - (intOf i).toNat)
  case atStart => exact ⟨0, s.size + 1, [], by omega, by omega, by simp, rfl, rfl, World.ownsRow_nil _ _ _ _, Below.refl _ _⟩
  case round =>
    obtain ⟨k, f, L, hk, hf, hL, rfl, HX, HO, HB⟩ := hrel
    obtain ⟨f, rfl⟩ : ∃ g, f = g + 1 := ⟨f - 1, by omega⟩
    by_cases hlt : k < s.size
    · have hd : decide ((k : Int) < (s.size : Int)) = true := by simp; omega
      have hby := s[k].toNat_lt
      by_cases h32 : s[k].toNat = 32
      · have hsp : ((s[k].toNat : Int) == 32) = true := by simp; omega
        have HX2 : Hid (lexGo s f (k + 1) L = lexGo s (s.size + 1) 0 []) := (lexGo_space hlt h32).symm.trans HX.out
        clear h32
        go_wp2_with fail
        go_roundw
        case rel => exact ⟨k + 1, f, L, by omega, by omega, by omega, by go_num, HX2, HO, HB⟩
        case measure => simp [intOf]; omega
      · have hsp : ((s[k].toNat : Int) == 32) = false := by simp; omega
        cases ho : one (s.data.toList.drop k) with
        | error x =>
          have HX2 := Lib.hid ((lexGo_err (f := f) (l := L) hlt h32 ho).symm.trans HX.out)
          have hx0 : (x != 0) = true := by rcases one_err ho with e | e | e <;> subst e <;> rfl
          have C1 := Lib.hid (fun w => one_bad s k w (by omega) hlt x ho)
          clear ho h32 HX
          go_wp2_with (go_at_call 65; refine (C1.out _).mono ?_; rintro e w1 ⟨rfl, b1⟩)
          go_ret2
          rw [← HX2.out]
          exact TokPost.bad ((chain0 HB.out b1).alloc (chain0 HB.out b1).size _)
        | ok p =>
          have HX2 := Lib.hid ((lexGo_tok (f := f) (l := L) hlt h32 ho).symm.trans HX.out)
          have C1 := Lib.hid (fun w => one_any s k w (by omega) hlt p ho)
          have hp := one_len ho
          have hzz : (s.extract k (k + p.len)).size = p.len := by simp at hp ⊢; omega
          have hpl : p.len ≤ s.size - k := by simpa using hp.2
          have hp1 := hp.1
          have HT : Hid ((oneTok s k p).cells = [.int .i64 (p.kind : Int), .string (s.extract k (k + p.len)), .int .i64 (p.value : Int), .int .i64 (k : Int)]) := rfl
          generalize oneTok s k p = tk at *
          generalize s.extract k (k + p.len) = t at *
          have HZ := Lib.hid hzz
          clear ho h32 HX hzz hp
          go_wp2_with fail
          refine (C1.out _).mono ?_
          rintro e w1 ⟨rfl, b1⟩
          have B1 := Lib.hid (chain0 HB.out b1)
          have O1 : Hid (w1.ownsRow w.heap.size 92 4 u4 L.length (cellsOf L)) := own_below HO.out b1
          clear b1 HB HO
          go_wp2_with (at_builtin; refine wpList_append_own _ rfl (.tmp 30) (.tmp 32) _ rfl w.heap.size 92 i0 _ 4 40 Tryd.underlying55 hi0 hz0 hz1 hz2 rfl (by decide) u4 L.length (cellsOf L) rfl ((O1.out.alloc _).alloc _) ⟨w1.heap.size + 1, 0, none⟩ 1 1 [.int .i64 (p.kind : Int), .string t, .int .i64 (p.value : Int), .int .i64 (k : Int)] rfl rfl ?c1 ?c2 ?c3 ?c4 ?c5 ?_)
          case c1 =>
            intro j u hj
            have hz : w1.heap.size + 1 = (w1.alloc (.cells #[.int .i64 (p.kind : Int), .string t, .int .i64 (p.value : Int), .int .i64 (k : Int)] 92)).heap.size := by simp
            rw [hz]
            exact four_new _ _ _ _ _ _ j u hj
          case c2 => exact one_cells4 rfl rfl rfl rfl
          case c3 => unfold maxLen; omega
          case c4 => omega
          case c5 => have := B1.out.size; simp; omega
          intro v' w2 hown hgr _
          have hB := ((Blk.new w1 92 #[.int .i64 (p.kind : Int), .string t, .int .i64 (p.value : Int), .int .i64 (k : Int)]).alloc (.cells #[.int .i64 (p.kind : Int), .string t, .int .i64 (p.value : Int), .int .i64 (k : Int)] 92)).grown hgr (fun e => by have := (O1.out.lt _ e.symm).2; omega)
          have hc := hB.c4
          have O2 : Hid (w2.ownsRow w.heap.size 92 4 v' (L ++ [tk]).length (cellsOf (L ++ [tk]))) := by
            rw [cellsOf_snoc, HT.out, List.length_append]
            exact hown
          have B2 : Hid (Below w.heap.size w w2) := ((B1.out.alloc B1.out.size _).alloc (by have := B1.out.size; simp; omega) _).grown hgr (by have := B1.out.size; simp; omega) (fun k hk => (O1.out.lt k hk).1)
          clear hB hgr hown O1 B1
          have hts : (t.size : Int) = (p.len : Int) := by rw [HZ.out]
          have HS := Lib.hid hts
          have hi1 : (0 : Int) ≤ (k : Int) + (t.size : Int) := by omega
          have hi2 : (k : Int) + (t.size : Int) ≤ 4000 := by omega
          clear hts
          go_wp2_with fail
          go_roundw
          case rel => exact ⟨k + p.len, f, L ++ [tk], by omega, by omega, by rw [List.length_append]; simp; omega, by rw [HS.out]; go_num, HX2, O2, B2⟩
          case measure => have := HS.out; simp [intOf]; omega
    · obtain rfl : k = s.size := by omega
      have hd : decide ((s.size : Int) < (s.size : Int)) = false := by simp
      go_wp2_with fail
      go_ret2
      rw [← HX.out, lexGo_end (Nat.le_refl _)]
      exact TokPost.good HO.out HB.out
end Lex
end Go.Proofs.YtjjlhihocllgjaaDoor
namespace Go.Proofs.YtjjlhihocllgjaaDoor
open Go.ChangeShapes Go.WideShapes Go.ChangeAt Go.RowKit
namespace Lex
/-- what One comes to -/
def OneR (l : List UInt8) (t : ByteArray) (w : World) (e : Ending) (w' : World) : Prop :=
  (match one l with
    | .ok p => e = .returned (.tuple #[.agg #[.int .i64 (p.kind : Int), .string (t.extract 0 p.len), .int .i64 (p.value : Int), .int .i64 0], .int .i64 0])
    | .error x => e = .returned (.tuple #[.agg #[.int .i64 0, .string ⟨#[]⟩, .int .i64 0, .int .i64 0], .int .i64 x])) ∧ Below w.heap.size w w'
theorem toList_cons (t : ByteArray) (h : 0 < t.size) : t.data.toList = t[0] :: t.data.toList.drop 1 := by
  have := drop_cons t 0 h
  simpa using this
theorem valT_part (t : ByteArray) (n : Nat) (hd : ∀ k (h : k < t.size), k < n → isDig t[k] = true) (hn : n ≤ t.size) : ∀ k, k ≤ n → valT t k + 1 ≤ 10 ^ k
  | 0, _ => by simp [valT, val]
  | k + 1, h => by
    have h1 := valT_part t n hd hn k (by omega)
    rw [valT_snoc t k (by omega), Nat.pow_succ]
    have h2 := dig_le (hd k (by omega) (by omega))
    omega
end Lex
end Go.Proofs.YtjjlhihocllgjaaDoor
namespace Go.Proofs.YtjjlhihocllgjaaDoor
open Go.ChangeShapes Go.WideShapes Go.ChangeAt Go.RowKit
namespace Lex
theorem rest_list (s : ByteArray) (k : Nat) : (s.extract k s.size).data.toList = s.data.toList.drop k := by
  have h : s.data.toList.length = s.size := rfl
  simp [List.extract]
  rw [List.take_of_length_le (by rw [List.length_drop, h]; exact Nat.le_refl _)]
end Lex
end Go.Proofs.YtjjlhihocllgjaaDoor
namespace Go.Proofs.YtjjlhihocllgjaaDoor
open Go.ChangeShapes Go.WideShapes Go.ChangeAt Go.RowKit
namespace Lex
theorem sl_cases {w : World} {v : Value} {L : List Tok} (h : Sl w 4 v L.length (cellsOf L)) : ∃ A c, v = .slice A L.length c ∧ L.length ≤ c ∧ c ≤ maxLen ∧ (0 < L.length → ∃ b o, A = some ⟨b, o, none⟩ ∧ b < w.heap.size ∧ TokRow w b o L) := by
  obtain ⟨_, A, c, h1, h2, h3, h4⟩ := h
  exact ⟨A, c, h1, h2, h3, h4⟩
end Lex
end Go.Proofs.YtjjlhihocllgjaaDoor
namespace Go.Proofs.YtjjlhihocllgjaaDoor
open Go.ChangeShapes Go.WideShapes Go.ChangeAt Go.RowKit

/-- w' is w but for block g and new blocks -/
structure Only (g : Nat) (w w' : World) : Prop where
  os : w'.os = w.os
  tape : w'.tape = w.tape
  output : w'.output = w.output
  size : w.heap.size ≤ w'.heap.size
  block : ∀ k, k < w.heap.size → k ≠ g → w'.heap[k]? = w.heap[k]?
section
variable {g B : Nat} {w w1 w2 : World}
theorem Only.refl (g : Nat) (w : World) : Only g w w := ⟨rfl, rfl, rfl, Nat.le_refl _, fun _ _ _ => rfl⟩
theorem Only.trans (h : Only g w w1) (k : Only g w1 w2) : Only g w w2 :=
  ⟨k.os.trans h.os, k.tape.trans h.tape, k.output.trans h.output, Nat.le_trans h.size k.size, fun i hi hne => (k.block i (Nat.lt_of_lt_of_le hi h.size) hne).trans (h.block i hi hne)⟩
theorem Only.of_below (g : Nat) (h : Below w.heap.size w w1) : Only g w w1 := ⟨h.os, h.tape, h.output, h.size, fun k hk _ => h.block k hk⟩
theorem Only.then_below (h : Only g w w1) (k : Below w1.heap.size w1 w2) : Only g w w2 := h.trans (Only.of_below g k)
theorem Only.put (h : Only g w w1) (o : Nat) (u : Value) : Only g w (w1.setCell ⟨g, o, none⟩ u) :=
  h.trans ⟨rfl, rfl, rfl, by simp [World.setCell], fun k _ hne => Below.heap_setCell _ _ _ _ hne⟩
theorem Only.alloc (h : Only g w w1) (o : Obj) : Only g w (w1.alloc o) := h.then_below (below_new w1 o)
theorem Only.drew (h : Only g w w1) : Only g w w1.drew := ⟨h.os, h.tape, h.output, h.size, h.block⟩
theorem Only.below (h : Only g w w1) (hb : B ≤ g) (hs : B ≤ w.heap.size) : Below B w w1 := ⟨h.os, h.tape, h.output, h.size, fun k hk => h.block k (by omega) (by omega)⟩
theorem Only.after_below {w0 : World} (b : Below w0.heap.size w0 w) (h : Only g w w1) (hg : w0.heap.size ≤ g) : Below w0.heap.size w0 w1 := b.trans (h.below hg b.size)
/-- a store far from g that lies in a new block -/
theorem Only.put_new (h : Only g w w1) {p : Addr} (hp : w.heap.size ≤ p.block) (u : Value) : Only g w (w1.setCell p u) :=
  ⟨h.os, h.tape, h.output, by have := h.size; simpa [World.setCell] using this, fun k hk hne => (Below.heap_setCell _ _ _ _ (by omega)).trans (h.block k hk hne)⟩
theorem Blk.only {t : TypeId} {cs : Array Value} {b : Nat} (h : Blk w b t cs) (o : Only g w w1) (hne : b ≠ g) : Blk w1 b t cs := (o.block b h.lt hne).trans h
end

namespace Lex
def peekT (L : List Tok) (e : Int) : Tok := if e = 0 then L.headD Tok.none else Tok.none
def nextL (L : List Tok) (e : Int) : List Tok := if e = 0 then L.tail else L
def failE (e x : Int) : Int := if e = 0 then x else e
def wrongE (L : List Tok) (e : Int) : Int := failE (if L = [] then failE e 1 else e) 2
def endE (L : List Tok) (e : Int) : Int := if e = 0 ∧ L ≠ [] then 3 else e
theorem tok_none : peekT [] 0 = Tok.none := rfl

/-- a scanner at block g, its tokens' row in a block of the element type -/
def Scan (ts te : TypeId) (w : World) (g : Nat) (L : List Tok) (e : Int) : Prop :=
  ∃ A c, Blk w g ts #[.slice A L.length c, .int .i64 e] ∧ L.length ≤ c ∧ c ≤ maxLen ∧ (0 < L.length → ∃ b o cs, A = some ⟨b, o, none⟩ ∧ Blk w b te cs ∧ TokRow w b o L)
section
variable {ts te : TypeId} {w w' : World} {g : Nat} {L : List Tok} {e : Int}
theorem TokRow.keep {b o : Nat} {cs : Array Value} (h : TokRow w b o L) (h1 : Blk w b te cs) (h2 : Blk w' b te cs) : TokRow w' b o L := by
  intro j u hu
  rw [h2.cell, ← h1.cell]
  exact h j u hu
theorem Scan.lt (h : Scan ts te w g L e) : g < w.heap.size := by
  obtain ⟨A, c, hb, _⟩ := h
  exact hb.lt
theorem Scan.below (h : Scan ts te w g L e) (hb : Below w.heap.size w w') : Scan ts te w' g L e := by
  obtain ⟨A, c, h1, h2, h3, h4⟩ := h
  refine ⟨A, c, h1.below' hb, h2, h3, fun hn => ?_⟩
  obtain ⟨b, o, cs, e1, e2, e3⟩ := h4 hn
  exact ⟨b, o, cs, e1, e2.below' hb, e3.keep e2 (e2.below' hb)⟩
theorem Scan.other {g' : Nat} {ts' : TypeId} {cs' : Array Value} (h : Scan ts te w g L e) (hb : Only g' w w') (hg : Blk w g' ts' cs') (h1 : ts' ≠ ts) (h2 : ts' ≠ te) : Scan ts te w' g L e := by
  obtain ⟨A, c, k1, k2, k3, k4⟩ := h
  refine ⟨A, c, k1.only hb (k1.apart hg (Ne.symm h1)), k2, k3, fun hn => ?_⟩
  obtain ⟨b, o, cs, e1, e2, e3⟩ := k4 hn
  have := e2.only hb (e2.apart hg (Ne.symm h2))
  exact ⟨b, o, cs, e1, this, e3.keep e2 this⟩
theorem Scan.fail (h : Scan ts te w g L e) (hne : te ≠ ts) (x : Int) : Scan ts te (w.setCell ⟨g, 1, none⟩ (.int .i64 x)) g L x := by
  obtain ⟨A, c, k1, k2, k3, k4⟩ := h
  refine ⟨A, c, k1.put 1 _, k2, k3, fun hn => ?_⟩
  obtain ⟨b, o, cs, e1, e2, e3⟩ := k4 hn
  have := e2.far (p := ⟨g, 1, none⟩) (e2.apart k1 hne) (.int .i64 x)
  exact ⟨b, o, cs, e1, this, e3.keep e2 this⟩
theorem TokRow.tail {b o : Nat} {t : Tok} (h : TokRow w b o (t :: L)) : TokRow w b (o + 4) L := by
  intro j u hu
  have := h (4 + j) u (by
    show (t.cells ++ cellsOf L)[4 + j]? = some u
    rw [List.getElem?_append_right (by simp)]
    simpa using hu)
  rw [Nat.add_assoc]
  exact this
/-- the parts of a scanner that has a next token -/
theorem Scan.cons {t : Tok} (h : Scan ts te w g (t :: L) e) : ∃ b o c cs, Blk w g ts #[.slice (some ⟨b, o, none⟩) (L.length + 1) c, .int .i64 e] ∧ L.length + 1 ≤ c ∧ c ≤ maxLen ∧ Blk w b te cs ∧ TokRow w b o (t :: L) := by
  obtain ⟨A, c, k1, k2, k3, k4⟩ := h
  obtain ⟨b, o, cs, rfl, e2, e3⟩ := k4 (by simp)
  exact ⟨b, o, c, cs, k1, by simpa using k2, k3, e2, e3⟩
theorem Scan.nil_ (h : Scan ts te w g [] e) : ∃ A c, Blk w g ts #[.slice A 0 c, .int .i64 e] := by
  obtain ⟨A, c, k1, _⟩ := h
  exact ⟨A, c, k1⟩
theorem Scan.step {t : Tok} {b o c : Nat} {cs : Array Value} (k1 : Blk w g ts #[.slice (some ⟨b, o, none⟩) (L.length + 1) c, .int .i64 e]) (k2 : L.length + 1 ≤ c) (k3 : c ≤ maxLen) (e2 : Blk w b te cs) (e3 : TokRow w b o (t :: L)) (hne : te ≠ ts) {A : Option Addr} (hA : c ≠ 1 → A = some ⟨b, o + 4, none⟩) :
    Scan ts te (w.setCell ⟨g, 0, none⟩ (.slice A L.length (c - 1))) g L e := by
  refine ⟨A, c - 1, k1.put 0 _, by omega, by omega, fun hn => ?_⟩
  have h1 := e2.far (p := ⟨g, 0, none⟩) (e2.apart k1 hne) (.slice A L.length (c - 1))
  exact ⟨b, o + 4, cs, hA (by omega), h1, (e3.keep e2 h1).tail⟩
theorem Scan.mk2 {wF : World} {t : Tok} {b o c : Nat} {cs : Array Value} {A : Option Addr} (k1 : Blk wF g ts #[.slice A L.length (c - 1), .int .i64 e]) (k2 : L.length + 1 ≤ c) (k3 : c ≤ maxLen) (e2 : Blk w b te cs) (e3 : TokRow w b o (t :: L)) (e4 : Blk wF b te cs) (hA : c ≠ 1 → A = some ⟨b, o + 4, none⟩) :
    Scan ts te wF g L e :=
  ⟨A, c - 1, k1, by omega, by omega, fun hn => ⟨b, o + 4, cs, hA (by omega), e4, (e3.keep e2 e4).tail⟩⟩
end
/-- four stores into a block -/
abbrev put4 (w : World) (g : Nat) (a b c d : Value) : World := (((w.setCell ⟨g, 0, none⟩ a).setCell ⟨g, 1, none⟩ b).setCell ⟨g, 2, none⟩ c).setCell ⟨g, 3, none⟩ d
section
variable {w w0 : World} {g B : Nat} {t : TypeId} {a b c d : Value}
theorem put4_blk {x y z u : Value} (h : Blk w g t #[x, y, z, u]) : Blk (put4 w g a b c d) g t #[a, b, c, d] := (((h.put 0 a).put 1 b).put 2 c).put 3 d
theorem put4_far {g' : Nat} {t' : TypeId} {cs : Array Value} (h : Blk w g' t' cs) (hne : g' ≠ g) : Blk (put4 w g a b c d) g' t' cs := (((h.far hne a).far hne b).far hne c).far hne d
theorem put4_below (h : Below B w0 w) (hg : B ≤ g) : Below B w0 (put4 w g a b c d) := (((h.setCell hg a).setCell hg b).setCell hg c).setCell hg d
theorem put4_only {g' : Nat} (h : Only g' w0 w) (hg : w0.heap.size ≤ g) : Only g' w0 (put4 w g a b c d) := (((h.put_new (p := ⟨g, 0, none⟩) hg a).put_new (p := ⟨g, 1, none⟩) hg b).put_new (p := ⟨g, 2, none⟩) hg c).put_new (p := ⟨g, 3, none⟩) hg d
end
end Lex
end Go.Proofs.YtjjlhihocllgjaaDoor
