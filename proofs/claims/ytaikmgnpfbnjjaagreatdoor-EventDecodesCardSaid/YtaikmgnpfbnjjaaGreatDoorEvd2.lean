/- The walk of EventDecodes. Printed by gen_evd2.py. -/
import Derived.Test.YtaikmgnpfbnjjaaGreatDoorEvc3
import Derived.Test.YtaikmgnpfbnjjaaGreatDoorPw13
import Derived.Test.YtaikmgnpfbnjjaaGreatDoorPw05
import Derived.Test.YtaikmgnpfbnjjaaGreatDoorPw00
namespace Go.Proofs.YtaikmgnpfbnjjaaGreatDoor.Ev
open Go.ChangeShapes Go.WideShapes Go.ChangeAt Go.RowKit Gn Cat Lex Ros Se
set_option linter.unusedVariables false
set_option linter.unusedSimpArgs false
theorem decR_digest (s : ByteArray) : (decodeR s).1.digest < 18446744073709551616 := by
  unfold decodeR
  dsimp only
  split
  · split
    · exact (by decide : 0 < 18446744073709551616)
    · split
      · exact (by decide : 0 < 18446744073709551616)
      · exact (by decide : 0 < 18446744073709551616)
  · split
    · exact (by decide : 0 < 18446744073709551616)
    · split
      · exact (by decide : 0 < 18446744073709551616)
      · split
        · exact Nat.lt_succ_of_le (rdU_le 18446744073709551615 _)
        · exact (by decide : 0 < 18446744073709551616)
theorem decV_small (s : ByteArray) : (decodeV s).1.text.size ≤ 5000 ∧ (decodeV s).1.digest < 18446744073709551616 := by
  by_cases h : 4000 < s.size
  · rw [dec_long h]
    exact ⟨by decide, by decide⟩
  · by_cases hE : rdEnd (decodeR s).2 = 0
    · rw [dec_fine h _ rfl hE]
      obtain ⟨h1, h2⟩ := decode_code (by omega) hE
      obtain ⟨_, q, _, _, _, h6⟩ := check_parts h1
      refine ⟨?_, decR_digest s⟩
      have h7 := code_text q
      show (decodeR s).1.text.size ≤ 5000
      by_cases h8 : 4000 < (decodeR s).1.text.size
      · have := h7 h8; omega
      · omega
    · rw [dec_fail h _ rfl hE]
      show noEvt.text.size ≤ 5000 ∧ noEvt.digest < 18446744073709551616
      exact ⟨by decide, by decide⟩
set_option maxHeartbeats 4000000 in
set_option maxRecDepth 100000 in
theorem law_decodes (s : ByteArray) (w : World) (hsh : Sh w) : Calls Tryz.prog 5 #[.string s] w (TrueP w) := by
  have HAW := Lib.hid (fun W (b : Below w.heap.size w W) => awake_any W (sh_keep hsh b))
  clear hsh
  by_cases hs : 5000 < s.size
  · have hd : decide ((5000 : Int) < (s.size : Int)) = true := decide_eq_true (by omega)
    clear hs
    go_enter Tryz.func5, Tryz.ntmps5
    go_wp2_with fail
    refine (HAW.out _ (Below.refl _ _)).mono ?_
    rintro x w1 ⟨rfl, d1⟩
    go_wp2_with fail
    go_ret
    exact ⟨rfl, d1⟩
  have hd : decide ((5000 : Int) < (s.size : Int)) = false := decide_eq_false (by omega)
  have C1 := Lib.hid (fun W => decode_any s W (by omega))
  have C2 := Lib.hid (fun W => rdecode_any s W (by omega))
  obtain ⟨z1, z2⟩ := decV_small s
  have HDE := Lib.hid (fun e h => decode_encode (s := s) (e := e) h)
  unfold DecPost at C1 C2
  generalize decodeV s = q at *
  obtain ⟨e, xe⟩ := q
  dsimp only at *
  have C3 := Lib.hid (fun W => encode_any e W z1 z2)
  have HENC : Hid (xe = 0 → encodeV e = (s, 0)) := fun h => HDE.out e (by rw [h])
  have EQ := fun W => eq_evt e e W
  rw [evEq_refl] at EQ
  generalize encodeV e = qe at *
  obtain ⟨se, ye⟩ := qe
  obtain ⟨k, b, r, p, t, d⟩ := e
  unfold Evt.val at *
  dsimp only at *
  have e1 : (xe != xe) = false := by simp
  clear z1 z2 HDE hs
  go_enter Tryz.func5, Tryz.ntmps5
  go_wp2_with fail
  refine (C1.out _).mono ?_
  rintro x w1 ⟨rfl, d1⟩
  have K1 := Lib.hid (Blk.new w1 26 #[.int .i64 k, .int .i64 b, .int .i64 r, .int .i64 (p 0), .int .i64 (p 1), .int .i64 (p 2), .int .i64 (p 3), .int .i64 (p 4), .int .i64 (p 5), .string t, .int .u64 (d : Int)])
  have B1 := Lib.hid (d1.alloc d1.size (.cells #[.int .i64 k, .int .i64 b, .int .i64 r, .int .i64 (p 0), .int .i64 (p 1), .int .i64 (p 2), .int .i64 (p 3), .int .i64 (p 4), .int .i64 (p 5), .string t, .int .u64 (d : Int)] 26))
  clear d1
  go_wp2_with fail
  generalize w1.alloc (.cells #[.int .i64 k, .int .i64 b, .int .i64 r, .int .i64 (p 0), .int .i64 (p 1), .int .i64 (p 2), .int .i64 (p 3), .int .i64 (p 4), .int .i64 (p 5), .string t, .int .u64 (d : Int)] 26) = w2 at *
  generalize w1.heap.size = g1 at *
  refine (C2.out _).mono ?_
  rintro x w3 ⟨rfl, d3⟩
  have K3 := Lib.hid ((K1.out.below' d3).alloc (.cells #[.int .i64 k, .int .i64 b, .int .i64 r, .int .i64 (p 0), .int .i64 (p 1), .int .i64 (p 2), .int .i64 (p 3), .int .i64 (p 4), .int .i64 (p 5), .string t, .int .u64 (d : Int)] 26))
  have L3 := Lib.hid (Blk.new w3 26 #[.int .i64 k, .int .i64 b, .int .i64 r, .int .i64 (p 0), .int .i64 (p 1), .int .i64 (p 2), .int .i64 (p 3), .int .i64 (p 4), .int .i64 (p 5), .string t, .int .u64 (d : Int)])
  have B3 := Lib.hid ((chain0 B1.out d3).alloc (chain0 B1.out d3).size (.cells #[.int .i64 k, .int .i64 b, .int .i64 r, .int .i64 (p 0), .int .i64 (p 1), .int .i64 (p 2), .int .i64 (p 3), .int .i64 (p 4), .int .i64 (p 5), .string t, .int .u64 (d : Int)] 26))
  clear d3 K1 B1
  go_upto_region 5 with fail
  generalize w3.alloc (.cells #[.int .i64 k, .int .i64 b, .int .i64 r, .int .i64 (p 0), .int .i64 (p 1), .int .i64 (p 2), .int .i64 (p 3), .int .i64 (p 4), .int .i64 (p 5), .string t, .int .u64 (d : Int)] 26) = w4 at *
  generalize w3.heap.size = g3 at *
  have k3 := Blk11 K3.out
  have l3 := K3.out.lt
  have m3 := Blk11 L3.out
  have n3 := L3.out.lt
  go_wp2_with fail
  refine (C3.out _).mono ?_
  rintro x w5 ⟨rfl, d5⟩
  have B5 := Lib.hid (chain0 B3.out d5)
  clear d5 k3 l3 m3 n3 K3 L3 B3
  by_cases hx : xe = 0
  · obtain ⟨a1, a2⟩ := Prod.mk.inj (HENC.out hx)
    have dx : (xe != 0) = false := by rw [hx]; rfl
    have dy : (ye == 0) = true := by rw [a2]; rfl
    have ds : (se.toList == s.toList) = true := eqS_yes a1
    clear a1 a2 hx
    go_wp2_with fail
    refine (HAW.out _ B5.out).mono ?_
    rintro x w6 ⟨rfl, d6⟩
    go_wp2_with fail
    go_ret
    exact ⟨rfl, chain0 B5.out d6⟩
  · have dx : (xe != 0) = true := by simpa using hx
    clear hx
    go_wp2_with fail
    refine (HAW.out _ B5.out).mono ?_
    rintro x w6 ⟨rfl, d6⟩
    go_wp2_with fail
    go_ret
    exact ⟨rfl, chain0 B5.out d6⟩
end Go.Proofs.YtaikmgnpfbnjjaaGreatDoor.Ev
