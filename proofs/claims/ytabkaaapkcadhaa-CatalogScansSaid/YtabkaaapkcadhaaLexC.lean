/- Contract of the reference's Tokens. -/
import Derived.Test.YtabkaaapkcadhaaLexB
namespace Go.Proofs.Ytabkaaapkcadhaa
open Go.ChangeShapes Go.WideShapes Go.ChangeAt Go.RowKit
namespace Lex
theorem rtok_info : (Try.prog.info? 34).map (fun i => (i.zero, i.size, i.bytes)) = some (some (.agg #[.int .i64 0, .string ⟨#[]⟩, .int .i64 0, .int .i64 0]), 4, 40) := by kernel_rfl
theorem rest_list (s : ByteArray) (k : Nat) : (s.extract k s.size).data.toList = s.data.toList.drop k := by
  have h : s.data.toList.length = s.size := rfl
  simp [List.extract]
  rw [List.take_of_length_le (by rw [List.length_drop, h]; exact Nat.le_refl _)]
theorem refOne_good (s : ByteArray) (k : Nat) (w : World) (hs : s.size ≤ maxLen) (hk : k < s.size) (p : Piece) (h : one (s.data.toList.drop k) = .ok p) :
    Calls Try.prog 62 #[.string (s.extract k s.size)] w fun e w' => e = .returned (.tuple #[.agg #[.int .i64 (p.kind : Int), .string (s.extract k (k + p.len)), .int .i64 (p.value : Int), .int .i64 0], .int .i64 0]) ∧ Below w.heap.size w w' := by
  have h0 := refOne_any (s.extract k s.size) w (by simp; omega) (by simp; omega)
  refine h0.mono fun e w' he => ?_
  have hl := (one_len h).2
  unfold OneR at he
  rw [rest_list, h] at he
  have hx : (s.extract k s.size).extract 0 p.len = s.extract k (k + p.len) := by
    have hl2 : p.len ≤ s.size - k := by rw [List.length_drop] at hl; exact hl
    rw [ByteArray.extract_extract, Nat.add_zero, Nat.min_eq_left (by omega)]
  dsimp only at he
  rw [hx] at he
  exact he
theorem refOne_bad (s : ByteArray) (k : Nat) (w : World) (hs : s.size ≤ maxLen) (hk : k < s.size) (x : Int) (h : one (s.data.toList.drop k) = .error x) :
    Calls Try.prog 62 #[.string (s.extract k s.size)] w fun e w' => e = .returned (.tuple #[.agg #[.int .i64 0, .string ⟨#[]⟩, .int .i64 0, .int .i64 0], .int .i64 x]) ∧ Below w.heap.size w w' := by
  have h0 := refOne_any (s.extract k s.size) w (by simp; omega) (by simp; omega)
  refine h0.mono fun e w' he => ?_
  unfold OneR at he
  rw [rest_list, h] at he
  exact he
theorem refTokens_long (s : ByteArray) (w : World) (hs : s.size ≤ maxLen) (h : 4000 < s.size) : Calls Try.prog 17 #[.string s] w (TokPost 34 (lex s) w) := by
  have hx : lex s = .error 3 := by unfold lex; rw [if_pos h]
  rw [hx]
  unfold maxLen at hs
  have hd : decide ((4000 : Int) < (s.size : Int)) = true := by simp; omega
  go_enter Try.func17, Try.ntmps17
  go_wp2_with fail
  go_ret2
  exact TokPost.bad (Below.refl _ _)
set_option maxRecDepth 100000 in
set_option maxHeartbeats 800000 in
theorem refTokens_short (s : ByteArray) (w : World) (h : s.size ≤ 4000) : Calls Try.prog 17 #[.string s] w (TokPost 34 (lex s) w) := by
  have hx : lex s = lexGo s (s.size + 1) 0 [] := by unfold lex; rw [if_neg (by omega)]
  rw [hx]
  have hd0 : decide ((4000 : Int) < (s.size : Int)) = false := by simp; omega
  obtain ⟨i0, hi0, hz0, hz1, hz2⟩ := info_parts rtok_info
  go_enter Try.func17, Try.ntmps17
  go_wp2_with fail
  go_loopw [4, 5] (fun v i wr => ∃ (k f : Nat) (L : List Tok), k ≤ s.size ∧ s.size < k + f ∧ L.length ≤ k ∧ i = .int .i64 (k : Int) ∧ Hid (lexGo s f k L = lexGo s (s.size + 1) 0 []) ∧ Hid (wr.ownsRow w.heap.size 34 4 v L.length (cellsOf L)) ∧ Hid (Below w.heap.size w wr)) (fun _ i _ => s.size - (intOf i).toNat)
  case atStart => exact ⟨0, s.size + 1, [], by omega, by omega, by simp, rfl, rfl, World.ownsRow_nil _ _ _ _, Below.refl _ _⟩
  case round =>
    obtain ⟨k, f, L, hk, hf, hL, rfl, HX, HO, HB⟩ := hrel
    obtain ⟨f, rfl⟩ : ∃ g, f = g + 1 := ⟨f - 1, by omega⟩
    by_cases hlt : k < s.size
    · have hd : decide ((k : Int) < (s.size : Int)) = true := by simp; omega
      have hby := s[k].toNat_lt
      by_cases h32 : s[k].toNat = 32
      · have hsp : ((s[k].toNat : Int) == 32) = true := by simp; omega
        have HX2 : Hid (lexGo s f (k + 1) L = lexGo s (s.size + 1) 0 []) := (lexGo_space hlt h32).symm.trans HX.out
        clear h32
        go_wp2_with fail
        go_roundw
        case rel => exact ⟨k + 1, f, L, by omega, by omega, by omega, by go_num, HX2, HO, HB⟩
        case measure => simp [intOf]; omega
      · have hsp : ((s[k].toNat : Int) == 32) = false := by simp; omega
        cases ho : one (s.data.toList.drop k) with
        | error x =>
          have HX2 := Lib.hid ((lexGo_err (f := f) (l := L) hlt h32 ho).symm.trans HX.out)
          have hx0 : (x != 0) = true := by rcases one_err ho with e | e | e <;> subst e <;> rfl
          have C1 := Lib.hid (fun w => refOne_bad s k w (by unfold maxLen; omega) hlt x ho)
          clear ho h32 HX
          go_wp2_with (go_at_call 62; refine (C1.out _).mono ?_; rintro e w1 ⟨rfl, b1⟩)
          go_ret2
          rw [← HX2.out]
          exact TokPost.bad ((chain0 HB.out b1).alloc (chain0 HB.out b1).size _)
        | ok p =>
          have HX2 := Lib.hid ((lexGo_tok (f := f) (l := L) hlt h32 ho).symm.trans HX.out)
          have C1 := Lib.hid (fun w => refOne_good s k w (by unfold maxLen; omega) hlt p ho)
          have hp := one_len ho
          have hzz : (s.extract k (k + p.len)).size = p.len := by simp at hp ⊢; omega
          have hpl : p.len ≤ s.size - k := by simpa using hp.2
          have hp1 := hp.1
          have HT : Hid ((oneTok s k p).cells = [.int .i64 (p.kind : Int), .string (s.extract k (k + p.len)), .int .i64 (p.value : Int), .int .i64 (k : Int)]) := rfl
          generalize oneTok s k p = tk at *
          generalize s.extract k (k + p.len) = t at *
          have HZ := Lib.hid hzz
          clear ho h32 HX hzz hp
          go_wp2_with fail
          refine (C1.out _).mono ?_
          rintro e w1 ⟨rfl, b1⟩
          have B1 := Lib.hid (chain0 HB.out b1)
          have O1 : Hid (w1.ownsRow w.heap.size 34 4 u4 L.length (cellsOf L)) := own_below HO.out b1
          clear b1 HB HO
          go_wp2_with (at_builtin; refine wpList_append_own _ rfl (.tmp 33) (.tmp 35) _ rfl w.heap.size 34 i0 _ 4 40 Try.underlying27 hi0 hz0 hz1 hz2 rfl (by decide) u4 L.length (cellsOf L) rfl ((O1.out.alloc _).alloc _) ⟨w1.heap.size + 1, 0, none⟩ 1 1 [.int .i64 (p.kind : Int), .string t, .int .i64 (p.value : Int), .int .i64 (k : Int)] rfl rfl ?c1 ?c2 ?c3 ?c4 ?c5 ?_)
          case c1 =>
            intro j u hj
            have hz : w1.heap.size + 1 = (w1.alloc (.cells #[.int .i64 (p.kind : Int), .string t, .int .i64 (p.value : Int), .int .i64 (k : Int)] 34)).heap.size := by simp
            rw [hz]
            exact four_new _ _ _ _ _ _ j u hj
          case c2 => exact one_cells4 rfl rfl rfl rfl
          case c3 => unfold maxLen; omega
          case c4 => omega
          case c5 => have := B1.out.size; simp; omega
          intro v' w2 hown hgr _
          have hB := ((Blk.new w1 34 #[.int .i64 (p.kind : Int), .string t, .int .i64 (p.value : Int), .int .i64 (k : Int)]).alloc (.cells #[.int .i64 (p.kind : Int), .string t, .int .i64 (p.value : Int), .int .i64 (k : Int)] 34)).grown hgr (fun e => by have := (O1.out.lt _ e.symm).2; omega)
          have hc := hB.c4
          have O2 : Hid (w2.ownsRow w.heap.size 34 4 v' (L ++ [tk]).length (cellsOf (L ++ [tk]))) := by
            rw [cellsOf_snoc, HT.out, List.length_append]
            exact hown
          have B2 : Hid (Below w.heap.size w w2) := ((B1.out.alloc B1.out.size _).alloc (by have := B1.out.size; simp; omega) _).grown hgr (by have := B1.out.size; simp; omega) (fun k hk => (O1.out.lt k hk).1)
          clear hB hgr hown O1 B1
          have hts : (t.size : Int) = (p.len : Int) := by rw [HZ.out]
          have HS := Lib.hid hts
          have hi1 : (0 : Int) ≤ (k : Int) + (t.size : Int) := by omega
          have hi2 : (k : Int) + (t.size : Int) ≤ 4000 := by omega
          clear hts
          go_wp2_with fail
          go_roundw
          case rel => exact ⟨k + p.len, f, L ++ [tk], by omega, by omega, by rw [List.length_append]; simp; omega, by rw [HS.out]; go_num, HX2, O2, B2⟩
          case measure => have := HS.out; simp [intOf]; omega
    · obtain rfl : k = s.size := by omega
      have hd : decide ((s.size : Int) < (s.size : Int)) = false := by simp
      go_wp2_with fail
      go_ret2
      rw [← HX.out, lexGo_end (Nat.le_refl _)]
      exact TokPost.good HO.out HB.out
end Lex
end Go.Proofs.Ytabkaaapkcadhaa
