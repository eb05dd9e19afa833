/- Contract of Tokens. -/
import Derived.Test.YtabkaaapkcadhaaLex9
namespace Go.Proofs.Ytabkaaapkcadhaa
open Go.ChangeShapes Go.WideShapes Go.ChangeAt Go.RowKit
namespace Lex
theorem tok_info : (Try.prog.info? 33).map (fun i => (i.zero, i.size, i.bytes)) = some (some (.agg #[.int .i64 0, .string ⟨#[]⟩, .int .i64 0, .int .i64 0]), 4, 40) := by kernel_rfl
theorem four_new (w : World) (a b c d : Value) (t : TypeId) : ∀ j u, [a, b, c, d][j]? = some u → (w.alloc (.cells #[a, b, c, d] t)).cell? ((⟨w.heap.size, 0, none⟩ : Addr).add j) = some u := by
  intro j u h
  have hb := Blk.new w t #[a, b, c, d]
  have e : (⟨w.heap.size, 0, none⟩ : Addr).add j = ⟨w.heap.size, j, none⟩ := by
    unfold Addr.add
    split
    · rename_i e; subst e; rfl
    · simp
  rw [e, hb.cell j]
  simpa using h
theorem one_cells4 {a b c d : Value} (ha : a.oneCell' = true) (hb : b.oneCell' = true) (hc : c.oneCell' = true) (hd : d.oneCell' = true) : ∀ u ∈ [a, b, c, d], u.oneCell' = true := by
  intro u hu
  simp at hu
  rcases hu with rfl | rfl | rfl | rfl <;> assumption
def LexErr (r : Except Int (List Tok)) : Int := match r with | .ok _ => 0 | .error e => e
def LexToks (r : Except Int (List Tok)) : List Tok := match r with | .ok l => l | .error _ => []
/-- what Tokens comes to -/
def TokPost (t : TypeId) (r : Except Int (List Tok)) (w : World) (e : Ending) (w' : World) : Prop :=
  ∃ v, e = .returned (.tuple #[v, .int .i64 (LexErr r)]) ∧ w'.ownsRow w.heap.size t 4 v (LexToks r).length (cellsOf (LexToks r)) ∧ Below w.heap.size w w'
theorem TokPost.bad {t : TypeId} {x : Int} {w w' : World} (h : Below w.heap.size w w') : TokPost t (.error x) w (.returned (.tuple #[.slice none 0 0, .int .i64 x])) w' :=
  ⟨_, rfl, World.ownsRow_nil _ _ _ _, h⟩
theorem TokPost.good {t : TypeId} {l : List Tok} {v : Value} {w w' : World} (ho : w'.ownsRow w.heap.size t 4 v l.length (cellsOf l)) (h : Below w.heap.size w w') : TokPost t (.ok l) w (.returned (.tuple #[v, .int .i64 0])) w' :=
  ⟨_, rfl, ho, h⟩
theorem tokens_long (s : ByteArray) (w : World) (hs : s.size ≤ maxLen) (h : 4000 < s.size) : Calls Try.prog 16 #[.string s] w (TokPost 33 (lex s) w) := by
  have hx : lex s = .error 3 := by unfold lex; rw [if_pos h]
  rw [hx]
  unfold maxLen at hs
  have hd : decide ((4000 : Int) < (s.size : Int)) = true := by simp; omega
  go_enter Try.func16, Try.ntmps16
  go_wp2_with fail
  go_ret2
  exact TokPost.bad (Below.refl _ _)
set_option maxRecDepth 100000 in
set_option maxHeartbeats 800000 in
theorem tokens_short (s : ByteArray) (w : World) (h : s.size ≤ 4000) : Calls Try.prog 16 #[.string s] w (TokPost 33 (lex s) w) := by
  have hx : lex s = lexGo s (s.size + 1) 0 [] := by unfold lex; rw [if_neg (by omega)]
  rw [hx]
  have hd0 : decide ((4000 : Int) < (s.size : Int)) = false := by simp; omega
  obtain ⟨i0, hi0, hz0, hz1, hz2⟩ := info_parts tok_info
  go_enter Try.func16, Try.ntmps16
  go_wp2_with fail
  go_loopw [4, 5] (fun v i wr => ∃ (k f : Nat) (L : List Tok), k ≤ s.size ∧ s.size < k + f ∧ L.length ≤ k ∧ i = .int .i64 (k : Int) ∧ Hid (lexGo s f k L = lexGo s (s.size + 1) 0 []) ∧ Hid (wr.ownsRow w.heap.size 33 4 v L.length (cellsOf L)) ∧ Hid (Below w.heap.size w wr)) (fun _ i _ => s.size - (intOf i).toNat)
  case atStart => exact ⟨0, s.size + 1, [], by omega, by omega, by simp, rfl, rfl, World.ownsRow_nil _ _ _ _, Below.refl _ _⟩
  case round =>
    obtain ⟨k, f, L, hk, hf, hL, rfl, HX, HO, HB⟩ := hrel
    obtain ⟨f, rfl⟩ : ∃ g, f = g + 1 := ⟨f - 1, by omega⟩
    by_cases hlt : k < s.size
    · have hd : decide ((k : Int) < (s.size : Int)) = true := by simp; omega
      have hby := s[k].toNat_lt
      by_cases h32 : s[k].toNat = 32
      · have hsp : ((s[k].toNat : Int) == 32) = true := by simp; omega
        have HX2 : Hid (lexGo s f (k + 1) L = lexGo s (s.size + 1) 0 []) := (lexGo_space hlt h32).symm.trans HX.out
        clear h32
        go_wp2_with fail
        go_roundw
        case rel => exact ⟨k + 1, f, L, by omega, by omega, by omega, by go_num, HX2, HO, HB⟩
        case measure => simp [intOf]; omega
      · have hsp : ((s[k].toNat : Int) == 32) = false := by simp; omega
        cases ho : one (s.data.toList.drop k) with
        | error x =>
          have HX2 := Lib.hid ((lexGo_err (f := f) (l := L) hlt h32 ho).symm.trans HX.out)
          have hx0 : (x != 0) = true := by rcases one_err ho with e | e | e <;> subst e <;> rfl
          have C1 := Lib.hid (fun w => one_bad s k w (by omega) hlt x ho)
          clear ho h32 HX
          go_wp2_with (go_at_call 61; refine (C1.out _).mono ?_; rintro e w1 ⟨rfl, b1⟩)
          go_ret2
          rw [← HX2.out]
          exact TokPost.bad ((chain0 HB.out b1).alloc (chain0 HB.out b1).size _)
        | ok p =>
          have HX2 := Lib.hid ((lexGo_tok (f := f) (l := L) hlt h32 ho).symm.trans HX.out)
          have C1 := Lib.hid (fun w => one_any s k w (by omega) hlt p ho)
          have hp := one_len ho
          have hzz : (s.extract k (k + p.len)).size = p.len := by simp at hp ⊢; omega
          have hpl : p.len ≤ s.size - k := by simpa using hp.2
          have hp1 := hp.1
          have HT : Hid ((oneTok s k p).cells = [.int .i64 (p.kind : Int), .string (s.extract k (k + p.len)), .int .i64 (p.value : Int), .int .i64 (k : Int)]) := rfl
          generalize oneTok s k p = tk at *
          generalize s.extract k (k + p.len) = t at *
          have HZ := Lib.hid hzz
          clear ho h32 HX hzz hp
          go_wp2_with fail
          refine (C1.out _).mono ?_
          rintro e w1 ⟨rfl, b1⟩
          have B1 := Lib.hid (chain0 HB.out b1)
          have O1 : Hid (w1.ownsRow w.heap.size 33 4 u4 L.length (cellsOf L)) := own_below HO.out b1
          clear b1 HB HO
          go_wp2_with (at_builtin; refine wpList_append_own _ rfl (.tmp 30) (.tmp 32) _ rfl w.heap.size 33 i0 _ 4 40 Try.underlying23 hi0 hz0 hz1 hz2 rfl (by decide) u4 L.length (cellsOf L) rfl ((O1.out.alloc _).alloc _) ⟨w1.heap.size + 1, 0, none⟩ 1 1 [.int .i64 (p.kind : Int), .string t, .int .i64 (p.value : Int), .int .i64 (k : Int)] rfl rfl ?c1 ?c2 ?c3 ?c4 ?c5 ?_)
          case c1 =>
            intro j u hj
            have hz : w1.heap.size + 1 = (w1.alloc (.cells #[.int .i64 (p.kind : Int), .string t, .int .i64 (p.value : Int), .int .i64 (k : Int)] 33)).heap.size := by simp
            rw [hz]
            exact four_new _ _ _ _ _ _ j u hj
          case c2 => exact one_cells4 rfl rfl rfl rfl
          case c3 => unfold maxLen; omega
          case c4 => omega
          case c5 => have := B1.out.size; simp; omega
          intro v' w2 hown hgr _
          have hB := ((Blk.new w1 33 #[.int .i64 (p.kind : Int), .string t, .int .i64 (p.value : Int), .int .i64 (k : Int)]).alloc (.cells #[.int .i64 (p.kind : Int), .string t, .int .i64 (p.value : Int), .int .i64 (k : Int)] 33)).grown hgr (fun e => by have := (O1.out.lt _ e.symm).2; omega)
          have hc := hB.c4
          have O2 : Hid (w2.ownsRow w.heap.size 33 4 v' (L ++ [tk]).length (cellsOf (L ++ [tk]))) := by
            rw [cellsOf_snoc, HT.out, List.length_append]
            exact hown
          have B2 : Hid (Below w.heap.size w w2) := ((B1.out.alloc B1.out.size _).alloc (by have := B1.out.size; simp; omega) _).grown hgr (by have := B1.out.size; simp; omega) (fun k hk => (O1.out.lt k hk).1)
          clear hB hgr hown O1 B1
          have hts : (t.size : Int) = (p.len : Int) := by rw [HZ.out]
          have HS := Lib.hid hts
          have hi1 : (0 : Int) ≤ (k : Int) + (t.size : Int) := by omega
          have hi2 : (k : Int) + (t.size : Int) ≤ 4000 := by omega
          clear hts
          go_wp2_with fail
          go_roundw
          case rel => exact ⟨k + p.len, f, L ++ [tk], by omega, by omega, by rw [List.length_append]; simp; omega, by rw [HS.out]; go_num, HX2, O2, B2⟩
          case measure => have := HS.out; simp [intOf]; omega
    · obtain rfl : k = s.size := by omega
      have hd : decide ((s.size : Int) < (s.size : Int)) = false := by simp
      go_wp2_with fail
      go_ret2
      rw [← HX.out, lexGo_end (Nat.le_refl _)]
      exact TokPost.good HO.out HB.out
end Lex
end Go.Proofs.Ytabkaaapkcadhaa
