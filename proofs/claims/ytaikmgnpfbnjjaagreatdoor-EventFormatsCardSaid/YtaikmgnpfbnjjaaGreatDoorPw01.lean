/- The library's string functions at one byte, in the words of the events' texts. Contracts of wire.Uint and Text, of both sides. An event's eleven cells in memory. Printed by gen_evC.py. Contracts of event.Name, fields and bare. Printed by gen_ev3.py. Plain: readers: bounds, the reference's order of checks. -/
import Derived.Test.YtaikmgnpfbnjjaaGreatDoorShelf
import Derived.Test.YtaikmgnpfbnjjaaGreatDoorPv0EvBase
import Derived.Test.YtaikmgnpfbnjjaaGreatDoorPw00
import Derived.OwnWalk
import Derived.Laws.IdiomStrings
namespace Go.Proofs.YtaikmgnpfbnjjaaGreatDoor.Ev
open Go.ChangeShapes Go.WideShapes Go.ChangeAt Go.RowKit Gn Cat Lex Ros Se
set_option linter.unusedVariables false
set_option linter.unusedSimpArgs false
abbrev Sh (w : World) : Prop := w.ShapedOpen Tryz.prog
theorem sh_keep {w w' : World} (h : Sh w) (b : Below w.heap.size w w') : Sh w' := World.ShapedOpen.keptBut h (b.frame fun _ => False) fun _ h => h.elim
/-- a slice of words -/
abbrev WS (w : World) (v : Value) (ws : List ByteArray) : Prop := Sl w 1 v ws.length (ws.map Value.string)
theorem ws_new {w : World} {ws : List ByteArray} {c : Nat} {cs : Array Value} (hc : ws.length ≤ c) (hm : c ≤ 6000) (h : ∀ j (hj : j < ws.length), cs[j]? = some (.string ws[j])) : WS (w.alloc (.cells cs 9)) (.slice (some ⟨w.heap.size, 0, none⟩) ws.length c) ws := by
  refine ⟨by simp, _, c, rfl, hc, by unfold maxLen; omega, fun h0 => ⟨w.heap.size, 0, rfl, (Blk.new w 9 cs).lt, fun j u hu => ?_⟩⟩
  rw [Nat.zero_add, (Blk.new w 9 cs).cell]
  obtain ⟨hx, rfl⟩ := List.getElem?_eq_some_iff.1 hu
  rw [List.length_map] at hx
  rw [h j hx, List.getElem_map]
theorem cut_any (s : ByteArray) (w : World) (h : Sh w) (hs : s.size ≤ 5000) : Calls Tryz.prog 54 #[.string s, .string ⟨#[32]⟩] w fun e w' => e = .returned (.tuple #[.string (ofL (cutL s.data.toList).1), .string (ofL (cutL s.data.toList).2.1), .bool (cutL s.data.toList).2.2]) ∧ Below w.heap.size w w' := by
  have k := Tryz.strings_Cut_shaped s ⟨#[32]⟩ w h (by omega)
  rw [show (⟨#[32]⟩ : ByteArray).data.toList = [32] from rfl, cut_one] at k
  refine k.mono ?_
  rintro e w' ⟨rfl, n, rfl⟩
  exact ⟨rfl, drewN_below w n⟩
theorem split_any (s : ByteArray) (w : World) (h : Sh w) (hs : s.size ≤ 5000) : Calls Tryz.prog 85 #[.string s, .string ⟨#[32]⟩] w fun e w' => ∃ c, e = .returned (.slice (some ⟨w.heap.size, 0, none⟩) (splitS 32 s).length c) ∧ WS w' (.slice (some ⟨w.heap.size, 0, none⟩) (splitS 32 s).length c) (splitS 32 s) ∧ Below w.heap.size w w' := by
  have k := Tryz.strings_Split_shaped s ⟨#[32]⟩ w h (by omega) (Nat.le_refl 1)
  rw [countB_one, splitB_one] at k
  refine k.mono ?_
  rintro e w' ⟨rfl, rfl⟩
  have hl := splitS_len 32 s
  exact ⟨_, rfl, ws_new (Nat.le_refl _) (by omega) (fun j hj => by simp [hj]), below_new _ _⟩
theorem cutsL_len : ∀ (k : Nat) (l : List UInt8), (cutsL k l).length ≤ k + 1
  | 0, l => Nat.le_refl _
  | k + 1, l => by
    rw [cutsL]
    have := cutsL_len k (cutL l).2.1
    split
    · simp; omega
    · simp
theorem cutsL_len2 : ∀ (k : Nat) (l : List UInt8), (cutsL k l).length ≤ l.length + 1
  | 0, l => by show 1 ≤ _; omega
  | k + 1, l => by
    rw [cutsL]
    cases hc : (cutL l).2.2 with
    | true =>
      have h2 := congrArg List.length (cut_yes hc).2
      rw [List.length_append, List.length_cons] at h2
      have := cutsL_len2 k (cutL l).2.1
      rw [if_pos rfl, List.length_cons]
      omega
    | false => rw [if_neg (by simp)]; show 1 ≤ _; omega
theorem cutsS_len (n : Nat) (s : ByteArray) (hn : 1 ≤ n) : (cutsS (n - 1) s).length ≤ min n (s.size + 1) := by
  unfold cutsS
  rw [List.length_map]
  have h1 := cutsL_len (n - 1) s.data.toList
  have h2 := cutsL_len2 (n - 1) s.data.toList
  have h3 : s.data.toList.length = s.size := rfl
  omega
theorem splitN_any (s : ByteArray) (n : Nat) (w : World) (h : Sh w) (hs : s.size ≤ 5000) (hn : 1 ≤ n) (hn5 : n ≤ 5000) : Calls Tryz.prog 86 #[.string s, .string ⟨#[32]⟩, .int .i64 (n : Int)] w fun e w' => ∃ c, e = .returned (.slice (some ⟨w.heap.size, 0, none⟩) (cutsS (n - 1) s).length c) ∧ WS w' (.slice (some ⟨w.heap.size, 0, none⟩) (cutsS (n - 1) s).length c) (cutsS (n - 1) s) ∧ Below w.heap.size w w' := by
  have k := Tryz.strings_SplitN_shaped s ⟨#[32]⟩ n w h (by omega) (Nat.le_refl 1) hn (by omega)
  rw [splitB_cuts n s hn] at k
  refine k.mono ?_
  rintro e w' ⟨rfl, rfl⟩
  have hl := cutsS_len n s hn
  refine ⟨_, rfl, ws_new hl (by omega) (fun j hj => ?_), below_new _ _⟩
  unfold Lib.cellsOf
  rw [List.getElem?_toArray, List.getElem?_append_left (by simpa using hj)]
  simp [hj]
theorem repl_any (s : ByteArray) (a b : UInt8) (w : World) (hab : a ≠ b) (h : Sh w) (hs : s.size ≤ 5000) : Calls Tryz.prog 80 #[.string s, .string ⟨#[a]⟩, .string ⟨#[b]⟩] w fun e w' => e = .returned (.string (ofL (replL a b s.data.toList))) ∧ Below w.heap.size w w' := by
  have hcnt : Lib.countB s ⟨#[a]⟩ ≤ s.size := by
    have h1 := countB_one a s
    have h2 := splitS_len a s
    omega
  have k := Tryz.strings_ReplaceAll_shaped s ⟨#[a]⟩ ⟨#[b]⟩ w h (by omega) (Nat.le_refl 1) (by show s.size + _ * 1 ≤ _; omega)
  rw [show (⟨#[a]⟩ : ByteArray).data.toList = [a] from rfl, show (⟨#[b]⟩ : ByteArray).data.toList = [b] from rfl, replace_one hab] at k
  exact k
theorem cutSuf_any (s : ByteArray) (w : World) (hs : s.size ≤ 5000) : Calls Tryz.prog 79 #[.string s, .string ⟨#[10]⟩] w fun e w' => e = .returned (.tuple #[.string (ofL (Lib.trimSuffix s.data.toList [10])), .bool (Lib.hasSuffix s.data.toList [10])]) ∧ w' = w :=
  Tryz.strings_CutSuffix s ⟨#[10]⟩ w (by omega)
theorem hasSuf_any (s : ByteArray) (w : World) (hs : s.size ≤ 5000) : Calls Tryz.prog 81 #[.string s, .string ⟨#[10]⟩] w fun e w' => e = .returned (.bool (Lib.hasSuffix s.data.toList [10])) ∧ w' = w :=
  Tryz.strings_HasSuffix s ⟨#[10]⟩ w (by omega)
theorem trim_any (s : ByteArray) (w : World) (hs : s.size ≤ 5000) : Calls Tryz.prog 89 #[.string s, .string ⟨#[10]⟩] w fun e w' => e = .returned (.string (ofL (Lib.trimSuffix s.data.toList [10]))) ∧ w' = w :=
  Tryz.strings_TrimSuffix s ⟨#[10]⟩ w (by omega)
theorem has_any (s : ByteArray) (c : UInt8) (w : World) : Calls Tryz.prog 82 #[.string s, .string ⟨#[c]⟩] w fun e w' => e = .returned (.bool (s.data.toList.contains c)) ∧ w' = w := by
  have k := Tryz.strings_Contains_one s c w
  rw [indexByte_iff] at k
  exact k
end Go.Proofs.YtaikmgnpfbnjjaaGreatDoor.Ev
namespace Go.Proofs.YtaikmgnpfbnjjaaGreatDoor.Ev
open Go.ChangeShapes Go.WideShapes Go.ChangeAt Go.RowKit Gn Cat Lex
set_option linter.unusedVariables false
set_option linter.unusedSimpArgs false
abbrev StrPost (s : ByteArray) (w : World) (e : Ending) (w' : World) : Prop := e = .returned (.string s) ∧ Below w.heap.size w w'
theorem u8_info : (Tryz.prog.info? 5).map (fun i => (i.zero, i.size, i.bytes)) = some (some (.int .u8 0), 1, 1) := by kernel_rfl
theorem u8s_one (l : List UInt8) : ∀ u ∈ u8s l, u.oneCell' = true := by
  intro u hu
  obtain ⟨b, _, rfl⟩ := List.mem_map.1 hu
  rfl
/-- bytes in memory, read back as a string -/
theorem back_cells (w : World) (b n c : Nat) (l : List UInt8) (hn : n = l.length) (h : ∀ (j : Nat) u, (u8s l)[j]? = some u → w.cell? ((⟨b, 0, none⟩ : Addr).add j) = some u) :
    (convert 106 9 (.slice (some ⟨b, 0, none⟩) n c)).run Tryz.prog w = .ok (.string ⟨l.toArray⟩) w := by
  subst hn
  refine run_convert_bytes_back (P := Tryz.prog) w 106 9 5 ⟨b, 0, none⟩ c l (by kernel_rfl) (by kernel_rfl) (by kernel_rfl) ?_
  intro j hj
  exact h j _ (by simp [u8s, hj])
theorem back_own {w : World} {base : Nat} {A : Option Addr} {n c : Nat} {l : List UInt8} (h : w.ownsRow base 5 1 (.slice A n c) n (u8s l)) (hn : n = l.length) (h0 : 0 < n) :
    (convert 106 9 (.slice A n c)).run Tryz.prog w = .ok (.string ⟨l.toArray⟩) w := by
  have h2 := h.2
  rcases h2 with ⟨_, e⟩ | ⟨g, cap, cur, e, _⟩
  · exact absurd e (Nat.pos_iff_ne_zero.1 h0)
  · have e1 := (Value.slice.inj e).1
    subst e1
    exact back_cells w g n c l hn fun j u hu => h.cells (g := g) rfl j u hu
theorem uint_one (x : Nat) (h : x < 128) : (x : Int) = ((UInt8.ofNat x).toNat : Int) := by
  show (x : Int) = ((x % 256 : Nat) : Int)
  omega
set_option maxHeartbeats 1000000 in
set_option maxRecDepth 100000 in
theorem uint_any (x : Nat) (w : World) (hx : x < 18446744073709551616) : Calls Tryz.prog 66 #[.int .u64 (x : Int)] w (StrPost (uintB x) w) := by
  obtain ⟨j0, hj0, hy0, hy1, hy2⟩ := info_parts u8_info
  have HX := Lib.hid hx
  have HS := Lib.hid (uintL_len x)
  unfold uintB
  obtain ⟨L, hL⟩ : ∃ L, L = uintL x := ⟨_, rfl⟩
  have HL := Lib.hid hL
  rw [← hL] at HS ⊢
  clear hL
  clear hx
  go_enter Tryz.func66, Tryz.ntmps66
  go_wp2_with fail
  go_loopw [0, 3] (fun xv ov wr => ∃ (y k : Nat) (pre : List UInt8) (A : Option Addr) (c : Nat), Hid (y < 18446744073709551616) ∧ xv = .int .u64 (y : Int) ∧ ov = .slice A k c ∧ Hid (k = pre.length) ∧ Hid (L = pre ++ uintL y) ∧ Hid (wr.ownsRow w.heap.size 5 1 (.slice A k c) k (u8s pre)) ∧ Hid (Below w.heap.size w wr)) (fun xv _ _ => (intOf xv).toNat)
  case atStart => exact ⟨x, 0, [], none, 0, HX.out, rfl, rfl, rfl, HL.out, ⟨rfl, .inl ⟨rfl, rfl⟩⟩, Below.refl _ _⟩
  case round =>
    obtain ⟨y, k, pre, A, c, HY, rfl, rfl, HK, HP, HO, HB⟩ := hrel
    by_cases hb : y < 128
    · have hd : decide ((128 : Int) ≤ (y : Int)) = false := decide_eq_false (by omega)
      have HE := Lib.hid (HP.out.trans (by rw [uintL_small hb]))
      have HU := Lib.hid (uint_one y hb)
      have HM : Hid (k ≤ 10) := by
        show k ≤ 10
        have h1 := congrArg List.length HP.out
        have h2 := HS.out
        have h3 := HK.out
        rw [List.length_append] at h1
        omega
      go_wp2_with (at_builtin; refine wpList_append_own _ rfl _ _ 106 rfl w.heap.size 5 j0 _ 1 1 Tryz.underlying106 hj0 hy0 hy1 hy2 rfl (by decide) (.slice A k c) k _ rfl (HO.out.alloc _) ⟨wr.heap.size, 0, none⟩ 1 1 [.int .u8 (y : Int)] rfl rfl (cells_new wr _ _) (by intro u hu; simp at hu; subst hu; rfl) (by have := HM.out; unfold maxLen; omega) (by have := HM.out; omega) (by have := HB.out.size; simp; omega) ?_)
      intro v' w4 hown hgr _
      obtain ⟨A5, c5, rfl⟩ := Gn.own_form hown
      rw [HU.out] at hown
      have hcv := back_own (l := pre ++ [UInt8.ofNat y]) (by rw [u8s_app]; exact hown) (by have := HK.out; simp; omega) (by omega)
      have B5 : Hid (Below w.heap.size w w4) := (HB.out.alloc HB.out.size _).grown hgr (by have := HB.out.size; simp; omega) (fun q hq => (HO.out.lt q hq).1)
      clear hown hgr HO HB
      rw [← HE.out] at hcv
      go_wp2_with fail
      go_ret
      exact ⟨rfl, B5.out⟩
    · have hd : decide ((128 : Int) ≤ (y : Int)) = true := decide_eq_true (by omega)
      have HE := Lib.hid (HP.out.trans (by rw [uintL_big hb HY.out]))
      have HU := Lib.hid (or128 y ((y : Int) % 256) (by omega))
      have HQ : Hid ((y : Int) / 128 = ((y / 128 : Nat) : Int)) := by show _ = _; omega
      have HM : Hid (k ≤ 10) := by
        show k ≤ 10
        have h1 := congrArg List.length HP.out
        have h2 := HS.out
        have h3 := HK.out
        rw [List.length_append] at h1
        omega
      go_wp2_with (at_builtin; refine wpList_append_own _ rfl _ _ 106 rfl w.heap.size 5 j0 _ 1 1 Tryz.underlying106 hj0 hy0 hy1 hy2 rfl (by decide) (.slice A k c) k _ rfl (HO.out.alloc _) ⟨wr.heap.size, 0, none⟩ 1 1 [.int .u8 (bits .or .u8 ((y : Int) % 256) 128)] rfl rfl (cells_new wr _ _) (by intro u hu; simp at hu; subst hu; rfl) (by have := HM.out; unfold maxLen; omega) (by have := HM.out; omega) (by have := HB.out.size; simp; omega) ?_)
      intro v' w4 hown hgr _
      obtain ⟨A5, c5, rfl⟩ := Gn.own_form hown
      rw [HU.out] at hown
      have O5 : Hid (w4.ownsRow w.heap.size 5 1 (.slice A5 (k + 1) c5) (k + 1) (u8s (pre ++ [UInt8.ofNat (128 + y % 128)]))) := by show World.ownsRow _ _ _ _ _ _ _; rw [u8s_app]; exact hown
      have B5 : Hid (Below w.heap.size w w4) := (HB.out.alloc HB.out.size _).grown hgr (by have := HB.out.size; simp; omega) (fun q hq => (HO.out.lt q hq).1)
      clear hown hgr HO HB
      go_wp2_with fail
      go_roundw
      case rel => exact ⟨y / 128, k + 1, pre ++ [UInt8.ofNat (128 + y % 128)], A5, c5, by show _ < _; have := HY.out; omega, by first | rw [HQ.out] | exact congrArg (Value.int .u64) HQ.out, rfl, by show _ = _; have := HK.out; simp; omega, by show _ = _; rw [HE.out]; simp, O5.out, B5.out⟩
      case measure => simp [intOf]; omega
theorem add_s (a b : ByteArray) (h : a.size + b.size ≤ 100000) (W : World) : (Op.stringOp .add a b).run Tryz.prog W = .ok (.string (a ++ b)) W := run_string_add_sum W _ _ (by omega)
theorem ruint_one (b : Int) (c : UInt8) (w : World) (h : b = (c.toNat : Int)) : (convert 106 9 (.slice (some ⟨w.heap.size, 0, none⟩) 1 1)).run Tryz.prog (w.alloc (.cells #[.int .u8 b] 5)) = .ok (.string ⟨#[c]⟩) (w.alloc (.cells #[.int .u8 b] 5)) := by
  subst h
  refine back_cells _ _ 1 1 [c] rfl fun j u hu => ?_
  rw [OpenAdd.add_at, Nat.zero_add, (Blk.new w 5 _).cell]
  simpa [u8s] using hu
end Go.Proofs.YtaikmgnpfbnjjaaGreatDoor.Ev
namespace Go.Proofs.YtaikmgnpfbnjjaaGreatDoor.Ev
open Go.ChangeShapes Go.WideShapes Go.ChangeAt Go.RowKit Gn Cat Lex
set_option linter.unusedVariables false
set_option linter.unusedSimpArgs false
abbrev cells11 (k b r : Int) (p : Nat → Int) (t : ByteArray) (d : Nat) : Array Value := #[.int .i64 k, .int .i64 b, .int .i64 r, .int .i64 (p 0), .int .i64 (p 1), .int .i64 (p 2), .int .i64 (p 3), .int .i64 (p 4), .int .i64 (p 5), .string t, .int .u64 (d : Int)]
abbrev put11 (w : World) (x : Nat) (k b r : Int) (p : Nat → Int) (t : ByteArray) (d : Nat) : World := ((((((((((w.setCell ⟨x, 0, none⟩ (.int .i64 k)).setCell ⟨x, 1, none⟩ (.int .i64 b)).setCell ⟨x, 2, none⟩ (.int .i64 r)).setCell ⟨x, 3, none⟩ (.int .i64 (p 0))).setCell ⟨x, 4, none⟩ (.int .i64 (p 1))).setCell ⟨x, 5, none⟩ (.int .i64 (p 2))).setCell ⟨x, 6, none⟩ (.int .i64 (p 3))).setCell ⟨x, 7, none⟩ (.int .i64 (p 4))).setCell ⟨x, 8, none⟩ (.int .i64 (p 5))).setCell ⟨x, 9, none⟩ (.string t)).setCell ⟨x, 10, none⟩ (.int .u64 (d : Int))
theorem put_all {w : World} {x : Nat} {t : TypeId} {a0 a1 a2 a3 a4 a5 a6 a7 a8 a9 a10 : Value} (h : Blk w x t #[a0, a1, a2, a3, a4, a5, a6, a7, a8, a9, a10]) (b0 b1 b2 b3 b4 b5 b6 b7 b8 b9 b10 : Value) : Blk (((((((((((w.setCell ⟨x, 0, none⟩ b0).setCell ⟨x, 1, none⟩ b1).setCell ⟨x, 2, none⟩ b2).setCell ⟨x, 3, none⟩ b3).setCell ⟨x, 4, none⟩ b4).setCell ⟨x, 5, none⟩ b5).setCell ⟨x, 6, none⟩ b6).setCell ⟨x, 7, none⟩ b7).setCell ⟨x, 8, none⟩ b8).setCell ⟨x, 9, none⟩ b9).setCell ⟨x, 10, none⟩ b10) x t #[b0, b1, b2, b3, b4, b5, b6, b7, b8, b9, b10] := by
  have := (((((((((((h.put 0 b0).put 1 b1).put 2 b2).put 3 b3).put 4 b4).put 5 b5).put 6 b6).put 7 b7).put 8 b8).put 9 b9).put 10 b10)
  simpa using this
theorem below_all {m : Nat} {w wx : World} {x : Nat} (h : Below m w wx) (hx : m ≤ x) (b0 b1 b2 b3 b4 b5 b6 b7 b8 b9 b10 : Value) : Below m w (((((((((((wx.setCell ⟨x, 0, none⟩ b0).setCell ⟨x, 1, none⟩ b1).setCell ⟨x, 2, none⟩ b2).setCell ⟨x, 3, none⟩ b3).setCell ⟨x, 4, none⟩ b4).setCell ⟨x, 5, none⟩ b5).setCell ⟨x, 6, none⟩ b6).setCell ⟨x, 7, none⟩ b7).setCell ⟨x, 8, none⟩ b8).setCell ⟨x, 9, none⟩ b9).setCell ⟨x, 10, none⟩ b10) :=
  ((((((((((h.setCell (p := ⟨x, 0, none⟩) hx b0).setCell (p := ⟨x, 1, none⟩) hx b1).setCell (p := ⟨x, 2, none⟩) hx b2).setCell (p := ⟨x, 3, none⟩) hx b3).setCell (p := ⟨x, 4, none⟩) hx b4).setCell (p := ⟨x, 5, none⟩) hx b5).setCell (p := ⟨x, 6, none⟩) hx b6).setCell (p := ⟨x, 7, none⟩) hx b7).setCell (p := ⟨x, 8, none⟩) hx b8).setCell (p := ⟨x, 9, none⟩) hx b9).setCell (p := ⟨x, 10, none⟩) hx b10
theorem blk_put11 {w : World} {x : Nat} {tb : TypeId} {a0 a1 a2 a3 a4 a5 a6 a7 a8 a9 a10 : Value} (h : Blk w x tb #[a0, a1, a2, a3, a4, a5, a6, a7, a8, a9, a10]) (k b r : Int) (p : Nat → Int) (t : ByteArray) (d : Nat) : Blk (put11 w x k b r p t d) x tb (cells11 k b r p t d) :=
  put_all h (.int .i64 k) (.int .i64 b) (.int .i64 r) (.int .i64 (p 0)) (.int .i64 (p 1)) (.int .i64 (p 2)) (.int .i64 (p 3)) (.int .i64 (p 4)) (.int .i64 (p 5)) (.string t) (.int .u64 (d : Int))
theorem below_put11 {B : Nat} {w wx : World} {x : Nat} (h : Below B w wx) (hx : B ≤ x) (k b r : Int) (p : Nat → Int) (t : ByteArray) (d : Nat) : Below B w (put11 wx x k b r p t d) :=
  ((((((((((h.setCell (p := ⟨x, 0, none⟩) hx (.int .i64 k)).setCell (p := ⟨x, 1, none⟩) hx (.int .i64 b)).setCell (p := ⟨x, 2, none⟩) hx (.int .i64 r)).setCell (p := ⟨x, 3, none⟩) hx (.int .i64 (p 0))).setCell (p := ⟨x, 4, none⟩) hx (.int .i64 (p 1))).setCell (p := ⟨x, 5, none⟩) hx (.int .i64 (p 2))).setCell (p := ⟨x, 6, none⟩) hx (.int .i64 (p 3))).setCell (p := ⟨x, 7, none⟩) hx (.int .i64 (p 4))).setCell (p := ⟨x, 8, none⟩) hx (.int .i64 (p 5))).setCell (p := ⟨x, 9, none⟩) hx (.string t)).setCell (p := ⟨x, 10, none⟩) hx (.int .u64 (d : Int))
theorem far_put11 {w : World} {g x : Nat} {tb : TypeId} {cs : Array Value} (h : Blk w g tb cs) (hx : g ≠ x) (k b r : Int) (p : Nat → Int) (t : ByteArray) (d : Nat) : Blk (put11 w x k b r p t d) g tb cs :=
  ((((((((((h.far (p := ⟨x, 0, none⟩) hx (.int .i64 k)).far (p := ⟨x, 1, none⟩) hx (.int .i64 b)).far (p := ⟨x, 2, none⟩) hx (.int .i64 r)).far (p := ⟨x, 3, none⟩) hx (.int .i64 (p 0))).far (p := ⟨x, 4, none⟩) hx (.int .i64 (p 1))).far (p := ⟨x, 5, none⟩) hx (.int .i64 (p 2))).far (p := ⟨x, 6, none⟩) hx (.int .i64 (p 3))).far (p := ⟨x, 7, none⟩) hx (.int .i64 (p 4))).far (p := ⟨x, 8, none⟩) hx (.int .i64 (p 5))).far (p := ⟨x, 9, none⟩) hx (.string t)).far (p := ⟨x, 10, none⟩) hx (.int .u64 (d : Int))
/-- what the cells of a block of eleven cells are: facts for a walk -/
theorem Blk11 {w : World} {g : Nat} {t : TypeId} {a0 a1 a2 a3 a4 a5 a6 a7 a8 a9 a10 : Value} (h : Blk w g t #[a0, a1, a2, a3, a4, a5, a6, a7, a8, a9, a10]) :
    (w.cell? ⟨g, 0, none⟩ = some a0 ∧ w.frozen? ⟨g, 0, none⟩ = false) ∧ (w.cell? ⟨g, 1, none⟩ = some a1 ∧ w.frozen? ⟨g, 1, none⟩ = false) ∧ (w.cell? ⟨g, 2, none⟩ = some a2 ∧ w.frozen? ⟨g, 2, none⟩ = false) ∧ (w.cell? ⟨g, 3, none⟩ = some a3 ∧ w.frozen? ⟨g, 3, none⟩ = false) ∧ (w.cell? ⟨g, 4, none⟩ = some a4 ∧ w.frozen? ⟨g, 4, none⟩ = false) ∧ (w.cell? ⟨g, 5, none⟩ = some a5 ∧ w.frozen? ⟨g, 5, none⟩ = false) ∧ (w.cell? ⟨g, 6, none⟩ = some a6 ∧ w.frozen? ⟨g, 6, none⟩ = false) ∧ (w.cell? ⟨g, 7, none⟩ = some a7 ∧ w.frozen? ⟨g, 7, none⟩ = false) ∧ (w.cell? ⟨g, 8, none⟩ = some a8 ∧ w.frozen? ⟨g, 8, none⟩ = false) ∧ (w.cell? ⟨g, 9, none⟩ = some a9 ∧ w.frozen? ⟨g, 9, none⟩ = false) ∧ (w.cell? ⟨g, 10, none⟩ = some a10 ∧ w.frozen? ⟨g, 10, none⟩ = false) :=
  ⟨⟨h.cell 0, h.free 0⟩, ⟨h.cell 1, h.free 1⟩, ⟨h.cell 2, h.free 2⟩, ⟨h.cell 3, h.free 3⟩, ⟨h.cell 4, h.free 4⟩, ⟨h.cell 5, h.free 5⟩, ⟨h.cell 6, h.free 6⟩, ⟨h.cell 7, h.free 7⟩, ⟨h.cell 8, h.free 8⟩, ⟨h.cell 9, h.free 9⟩, ⟨h.cell 10, h.free 10⟩⟩
/-- the middle one of three new blocks -/
theorem blk_mid (w : World) (t : TypeId) (a b c : Array Value) : Blk (((w.alloc (.cells a t)).alloc (.cells b t)).alloc (.cells c t)) (w.heap.size + 1) t b := by
  have h := Blk.new (w.alloc (.cells a t)) t b
  rw [World.size_alloc] at h
  exact h.alloc _
theorem below_three (w : World) (x y z : Obj) : Below w.heap.size w (((w.alloc x).alloc y).alloc z) :=
  ((below_new w x).alloc (below_new w x).size y).alloc ((below_new w x).alloc (below_new w x).size y).size z
/-- an event in memory -/
abbrev EB (w : World) (g : Nat) (e : Evt) : Prop := Blk w g 26 (cells11 e.kind e.bidder e.round e.want e.text e.digest)
/-- how the kinds' fields lie -/
theorem fields_none {k : Int} (h : ¬ k = 1 ∧ ¬ k = 2 ∧ ¬ k = 5 ∧ ¬ k = 6 ∧ ¬ k = 7 ∧ ¬ k = 8 ∧ ¬ k = 10) : fieldsK k = 0 := by
  obtain ⟨h1, h2, h5, h6, h7, h8, h10⟩ := h
  unfold fieldsK
  rw [if_neg h1, if_neg h2, if_neg h5, if_neg (by omega), if_neg h8, if_neg h10]
theorem kind_cases (k : Int) : k = 1 ∨ k = 2 ∨ k = 5 ∨ (k = 6 ∨ k = 7) ∨ k = 8 ∨ k = 10 ∨ (¬ k = 1 ∧ ¬ k = 2 ∧ ¬ k = 5 ∧ ¬ k = 6 ∧ ¬ k = 7 ∧ ¬ k = 8 ∧ ¬ k = 10) := by omega
end Go.Proofs.YtaikmgnpfbnjjaaGreatDoor.Ev
namespace Go.Proofs.YtaikmgnpfbnjjaaGreatDoor.Ev
open Go.ChangeShapes Go.WideShapes Go.ChangeAt Go.RowKit Gn Cat Lex
set_option linter.unusedVariables false
set_option linter.unusedSimpArgs false
set_option maxHeartbeats 1000000 in
theorem name_any (k : Int) (w : World) : Calls Tryz.prog 11 #[.int .i64 k] w (StrPost (nameK k) w) := by
  by_cases h1 : k < 1
  · have HV : Hid (nameK k = ⟨#[]⟩) := by
      show nameK k = _
      unfold nameK
      rw [if_neg (by omega), if_neg (by omega), if_neg (by omega), if_neg (by omega), if_neg (by omega), if_neg (by omega), if_neg (by omega), if_neg (by omega), if_neg (by omega), if_neg (by omega)]
    have hd : decide (k < 1) = true := decide_eq_true h1
    clear h1
    go_enter Tryz.func11, Tryz.ntmps11
    go_wp2_with fail
    go_ret
    exact ⟨by rw [HV.out]; rfl, below_new _ _⟩
  · have hd : decide (k < 1) = false := decide_eq_false h1
    by_cases h2 : 10 < k
    · have HV : Hid (nameK k = ⟨#[]⟩) := by
        show nameK k = _
        unfold nameK
        rw [if_neg (by omega), if_neg (by omega), if_neg (by omega), if_neg (by omega), if_neg (by omega), if_neg (by omega), if_neg (by omega), if_neg (by omega), if_neg (by omega), if_neg (by omega)]
      have hd2 : decide (10 < k) = true := decide_eq_true h2
      clear h1 h2
      go_enter Tryz.func11, Tryz.ntmps11
      go_wp2_with fail
      go_ret
      exact ⟨by rw [HV.out]; rfl, below_new _ _⟩
    · have hk : k = 1 ∨ k = 2 ∨ k = 3 ∨ k = 4 ∨ k = 5 ∨ k = 6 ∨ k = 7 ∨ k = 8 ∨ k = 9 ∨ k = 10 := by omega
      clear h1 h2 hd
      rcases hk with rfl | rfl | rfl | rfl | rfl | rfl | rfl | rfl | rfl | rfl
      all_goals
        go_enter Tryz.func11, Tryz.ntmps11
        go_wp2_with fail
        go_ret
        exact ⟨rfl, below_new _ _⟩
theorem fields_any (k : Int) (w : World) : Calls Tryz.prog 35 #[.int .i64 k] w fun e w' => e = .returned (.int .i64 (fieldsK k)) ∧ w' = w := by
  rcases kind_cases k with rfl | rfl | rfl | (rfl | rfl) | rfl | rfl | h
  all_goals try (
    go_enter Tryz.func35, Tryz.ntmps35
    go_wp2_with fail
    go_ret
    exact ⟨rfl, rfl⟩)
  have HV := Lib.hid (fields_none h)
  obtain ⟨h1, h2, h5, h6, h7, h8, h10⟩ := h
  have d1 : (k == 1) = false := by simpa using h1
  have d2 : (k == 2) = false := by simpa using h2
  have d5 : (k == 5) = false := by simpa using h5
  have d6 : (k == 6) = false := by simpa using h6
  have d7 : (k == 7) = false := by simpa using h7
  have d8 : (k == 8) = false := by simpa using h8
  have d10 : (k == 10) = false := by simpa using h10
  clear h1 h2 h5 h6 h7 h8 h10
  go_enter Tryz.func35, Tryz.ntmps35
  go_wp2_with fail
  go_ret
  exact ⟨by rw [HV.out]; rfl, rfl⟩
theorem noB {k : Int} (h : ¬ k = 2 ∧ ¬ k = 5 ∧ ¬ k = 6 ∧ ¬ k = 7) : ¬ hasB k := by rintro (x | x | x | x) <;> omega
theorem noT {k : Int} (h : ¬ k = 1 ∧ ¬ k = 5) : ¬ hasT k := by rintro (x | x) <;> omega
theorem isB {k : Int} (h : k = 2 ∨ k = 5 ∨ k = 6 ∨ k = 7) : hasB k := h
theorem isT {k : Int} (h : k = 1 ∨ k = 5) : hasT k := h
theorem fields_0 {e : Evt} (h : ¬ e.kind = 1 ∧ ¬ e.kind = 2 ∧ ¬ e.kind = 5 ∧ ¬ e.kind = 6 ∧ ¬ e.kind = 7 ∧ ¬ e.kind = 8 ∧ ¬ e.kind = 10) : fieldsK e.kind = 0 := by
  exact fields_none h
theorem bare_0 {e : Evt} (h : ¬ e.kind = 1 ∧ ¬ e.kind = 2 ∧ ¬ e.kind = 5 ∧ ¬ e.kind = 6 ∧ ¬ e.kind = 7 ∧ ¬ e.kind = 8 ∧ ¬ e.kind = 10) : bareE e = ⟨e.kind, 0, 0, zero6, ⟨#[]⟩, 0⟩ := by
  unfold bareE
  rw [if_neg (noB (by omega)), if_neg (by omega), if_neg (by omega), if_neg (noT (by omega)), if_neg (by omega)]
theorem code_0 {e : Evt} (h : ¬ e.kind = 1 ∧ ¬ e.kind = 2 ∧ ¬ e.kind = 5 ∧ ¬ e.kind = 6 ∧ ¬ e.kind = 7 ∧ ¬ e.kind = 8 ∧ ¬ e.kind = 10) : codeL e = uintL e.kind.toNat ++ ([]) := by
  unfold codeL
  rw [if_neg (noB (by omega)), if_neg (by omega), if_neg (by omega), if_neg (noT (by omega)), if_neg (by omega)]
  simp
theorem fields_4 {e : Evt} (h : e.kind = 1) : fieldsK e.kind = 4 := by
  rw [h]; rfl
theorem bare_4 {e : Evt} (h : e.kind = 1) : bareE e = ⟨e.kind, 0, 0, zero6, e.text, 0⟩ := by
  unfold bareE
  rw [if_neg (noB (by omega)), if_neg (by omega), if_neg (by omega), if_pos (isT (by omega)), if_neg (by omega)]
theorem code_4 {e : Evt} (h : e.kind = 1) : codeL e = uintL e.kind.toNat ++ (textL e.text) := by
  unfold codeL
  rw [if_neg (noB (by omega)), if_neg (by omega), if_neg (by omega), if_pos (isT (by omega)), if_neg (by omega)]
  simp
theorem fields_3 {e : Evt} (h : e.kind = 2) : fieldsK e.kind = 3 := by
  rw [h]; rfl
theorem bare_3 {e : Evt} (h : e.kind = 2) : bareE e = ⟨e.kind, e.bidder, 0, e.want, ⟨#[]⟩, 0⟩ := by
  unfold bareE
  rw [if_pos (isB (by omega)), if_neg (by omega), if_pos (by omega), if_neg (noT (by omega)), if_neg (by omega)]
theorem code_3 {e : Evt} (h : e.kind = 2) : codeL e = uintL e.kind.toNat ++ (uintL e.bidder.toNat ++ (uintL (e.want 0).toNat ++ (uintL (e.want 1).toNat ++ (uintL (e.want 2).toNat ++ (uintL (e.want 3).toNat ++ (uintL (e.want 4).toNat ++ uintL (e.want 5).toNat)))))) := by
  unfold codeL
  rw [if_pos (isB (by omega)), if_neg (by omega), if_pos (by omega), if_neg (noT (by omega)), if_neg (by omega)]
  simp
theorem fields_5 {e : Evt} (h : e.kind = 5) : fieldsK e.kind = 5 := by
  rw [h]; rfl
theorem bare_5 {e : Evt} (h : e.kind = 5) : bareE e = ⟨e.kind, e.bidder, 0, zero6, e.text, 0⟩ := by
  unfold bareE
  rw [if_pos (isB (by omega)), if_neg (by omega), if_neg (by omega), if_pos (isT (by omega)), if_neg (by omega)]
theorem code_5 {e : Evt} (h : e.kind = 5) : codeL e = uintL e.kind.toNat ++ (uintL e.bidder.toNat ++ textL e.text) := by
  unfold codeL
  rw [if_pos (isB (by omega)), if_neg (by omega), if_neg (by omega), if_pos (isT (by omega)), if_neg (by omega)]
  simp
theorem fields_1 {e : Evt} (h : e.kind = 6 ∨ e.kind = 7) : fieldsK e.kind = 1 := by
  rcases h with h | h <;> rw [h] <;> rfl
theorem bare_1 {e : Evt} (h : e.kind = 6 ∨ e.kind = 7) : bareE e = ⟨e.kind, e.bidder, 0, zero6, ⟨#[]⟩, 0⟩ := by
  unfold bareE
  rw [if_pos (isB (by omega)), if_neg (by omega), if_neg (by omega), if_neg (noT (by omega)), if_neg (by omega)]
theorem code_1 {e : Evt} (h : e.kind = 6 ∨ e.kind = 7) : codeL e = uintL e.kind.toNat ++ (uintL e.bidder.toNat) := by
  unfold codeL
  rw [if_pos (isB (by omega)), if_neg (by omega), if_neg (by omega), if_neg (noT (by omega)), if_neg (by omega)]
  simp
theorem fields_8 {e : Evt} (h : e.kind = 8) : fieldsK e.kind = 8 := by
  rw [h]; rfl
theorem bare_8 {e : Evt} (h : e.kind = 8) : bareE e = ⟨e.kind, 0, e.round, zero6, ⟨#[]⟩, 0⟩ := by
  unfold bareE
  rw [if_neg (noB (by omega)), if_pos (by omega), if_neg (by omega), if_neg (noT (by omega)), if_neg (by omega)]
theorem code_8 {e : Evt} (h : e.kind = 8) : codeL e = uintL e.kind.toNat ++ (uintL e.round.toNat) := by
  unfold codeL
  rw [if_neg (noB (by omega)), if_pos (by omega), if_neg (by omega), if_neg (noT (by omega)), if_neg (by omega)]
  simp
theorem fields_16 {e : Evt} (h : e.kind = 10) : fieldsK e.kind = 16 := by
  rw [h]; rfl
theorem bare_16 {e : Evt} (h : e.kind = 10) : bareE e = ⟨e.kind, 0, 0, zero6, ⟨#[]⟩, e.digest⟩ := by
  unfold bareE
  rw [if_neg (noB (by omega)), if_neg (by omega), if_neg (by omega), if_neg (noT (by omega)), if_pos (by omega)]
theorem code_16 {e : Evt} (h : e.kind = 10) : codeL e = uintL e.kind.toNat ++ (uintL e.digest) := by
  unfold codeL
  rw [if_neg (noB (by omega)), if_neg (by omega), if_neg (by omega), if_neg (noT (by omega)), if_pos (by omega)]
  simp
abbrev EvtPost (x : Evt) (w : World) (e : Ending) (w' : World) : Prop := e = .returned x.val ∧ Below w.heap.size w w'
set_option maxHeartbeats 1000000 in
theorem bare_at_0 (e : Evt) (w : World) (h : ¬ e.kind = 1 ∧ ¬ e.kind = 2 ∧ ¬ e.kind = 5 ∧ ¬ e.kind = 6 ∧ ¬ e.kind = 7 ∧ ¬ e.kind = 8 ∧ ¬ e.kind = 10) : Calls Tryz.prog 24 #[e.val] w (EvtPost (bareE e) w) := by
  have HV := Lib.hid (bare_0 h)
  have HF := Lib.hid (fields_0 h)
  have CF := Lib.hid (fields_any e.kind)
  clear h
  rw [HF.out] at CF
  unfold EvtPost
  rw [HV.out]
  obtain ⟨k, b, r, p, t, d⟩ := e
  unfold Evt.val
  dsimp only at CF ⊢
  have t1 : (bits BinOp.and IntKind.i64 0 1 != 0) = false := by decide +kernel
  have t2 : (bits BinOp.and IntKind.i64 0 2 != 0) = false := by decide +kernel
  have t4 : (bits BinOp.and IntKind.i64 0 4 != 0) = false := by decide +kernel
  have t8 : (bits BinOp.and IntKind.i64 0 8 != 0) = false := by decide +kernel
  have t16 : (bits BinOp.and IntKind.i64 0 16 != 0) = false := by decide +kernel
  go_enter Tryz.func24, Tryz.ntmps24
  go_wp2_with fail
  refine (CF.out _).mono ?_
  rintro e w1 ⟨rfl, rfl⟩
  go_wp2_with fail
  exact bodyPost_ret (v := .agg (cells11 k 0 0 zero6 ⟨#[]⟩ 0)) (results_blk rfl rfl (blk_mid _ 26 _ _ _) Tryz.underlying26 rfl (by kernel_rfl)) rfl ⟨rfl, below_three _ _ _ _⟩
set_option maxHeartbeats 1000000 in
theorem bare_at_4 (e : Evt) (w : World) (h : e.kind = 1) : Calls Tryz.prog 24 #[e.val] w (EvtPost (bareE e) w) := by
  have HV := Lib.hid (bare_4 h)
  have HF := Lib.hid (fields_4 h)
  have CF := Lib.hid (fields_any e.kind)
  clear h
  rw [HF.out] at CF
  unfold EvtPost
  rw [HV.out]
  obtain ⟨k, b, r, p, t, d⟩ := e
  unfold Evt.val
  dsimp only at CF ⊢
  have t1 : (bits BinOp.and IntKind.i64 4 1 != 0) = false := by decide +kernel
  have t2 : (bits BinOp.and IntKind.i64 4 2 != 0) = false := by decide +kernel
  have t4 : (bits BinOp.and IntKind.i64 4 4 != 0) = true := by decide +kernel
  have t8 : (bits BinOp.and IntKind.i64 4 8 != 0) = false := by decide +kernel
  have t16 : (bits BinOp.and IntKind.i64 4 16 != 0) = false := by decide +kernel
  go_enter Tryz.func24, Tryz.ntmps24
  go_wp2_with fail
  refine (CF.out _).mono ?_
  rintro e w1 ⟨rfl, rfl⟩
  go_wp2_with fail
  exact bodyPost_ret (v := .agg (cells11 k 0 0 zero6 t 0)) (results_blk rfl rfl (blk_mid _ 26 _ _ _) Tryz.underlying26 rfl (by kernel_rfl)) rfl ⟨rfl, below_three _ _ _ _⟩
set_option maxHeartbeats 1000000 in
theorem bare_at_3 (e : Evt) (w : World) (h : e.kind = 2) : Calls Tryz.prog 24 #[e.val] w (EvtPost (bareE e) w) := by
  have HV := Lib.hid (bare_3 h)
  have HF := Lib.hid (fields_3 h)
  have CF := Lib.hid (fields_any e.kind)
  clear h
  rw [HF.out] at CF
  unfold EvtPost
  rw [HV.out]
  obtain ⟨k, b, r, p, t, d⟩ := e
  unfold Evt.val
  dsimp only at CF ⊢
  have t1 : (bits BinOp.and IntKind.i64 3 1 != 0) = true := by decide +kernel
  have t2 : (bits BinOp.and IntKind.i64 3 2 != 0) = true := by decide +kernel
  have t4 : (bits BinOp.and IntKind.i64 3 4 != 0) = false := by decide +kernel
  have t8 : (bits BinOp.and IntKind.i64 3 8 != 0) = false := by decide +kernel
  have t16 : (bits BinOp.and IntKind.i64 3 16 != 0) = false := by decide +kernel
  go_enter Tryz.func24, Tryz.ntmps24
  go_wp2_with fail
  refine (CF.out _).mono ?_
  rintro e w1 ⟨rfl, rfl⟩
  go_wp2_with fail
  exact bodyPost_ret (v := .agg (cells11 k b 0 p ⟨#[]⟩ 0)) (results_blk rfl rfl (blk_mid _ 26 _ _ _) Tryz.underlying26 rfl (by kernel_rfl)) rfl ⟨rfl, below_three _ _ _ _⟩
set_option maxHeartbeats 1000000 in
theorem bare_at_5 (e : Evt) (w : World) (h : e.kind = 5) : Calls Tryz.prog 24 #[e.val] w (EvtPost (bareE e) w) := by
  have HV := Lib.hid (bare_5 h)
  have HF := Lib.hid (fields_5 h)
  have CF := Lib.hid (fields_any e.kind)
  clear h
  rw [HF.out] at CF
  unfold EvtPost
  rw [HV.out]
  obtain ⟨k, b, r, p, t, d⟩ := e
  unfold Evt.val
  dsimp only at CF ⊢
  have t1 : (bits BinOp.and IntKind.i64 5 1 != 0) = true := by decide +kernel
  have t2 : (bits BinOp.and IntKind.i64 5 2 != 0) = false := by decide +kernel
  have t4 : (bits BinOp.and IntKind.i64 5 4 != 0) = true := by decide +kernel
  have t8 : (bits BinOp.and IntKind.i64 5 8 != 0) = false := by decide +kernel
  have t16 : (bits BinOp.and IntKind.i64 5 16 != 0) = false := by decide +kernel
  go_enter Tryz.func24, Tryz.ntmps24
  go_wp2_with fail
  refine (CF.out _).mono ?_
  rintro e w1 ⟨rfl, rfl⟩
  go_wp2_with fail
  exact bodyPost_ret (v := .agg (cells11 k b 0 zero6 t 0)) (results_blk rfl rfl (blk_mid _ 26 _ _ _) Tryz.underlying26 rfl (by kernel_rfl)) rfl ⟨rfl, below_three _ _ _ _⟩
set_option maxHeartbeats 1000000 in
theorem bare_at_1 (e : Evt) (w : World) (h : e.kind = 6 ∨ e.kind = 7) : Calls Tryz.prog 24 #[e.val] w (EvtPost (bareE e) w) := by
  have HV := Lib.hid (bare_1 h)
  have HF := Lib.hid (fields_1 h)
  have CF := Lib.hid (fields_any e.kind)
  clear h
  rw [HF.out] at CF
  unfold EvtPost
  rw [HV.out]
  obtain ⟨k, b, r, p, t, d⟩ := e
  unfold Evt.val
  dsimp only at CF ⊢
  have t1 : (bits BinOp.and IntKind.i64 1 1 != 0) = true := by decide +kernel
  have t2 : (bits BinOp.and IntKind.i64 1 2 != 0) = false := by decide +kernel
  have t4 : (bits BinOp.and IntKind.i64 1 4 != 0) = false := by decide +kernel
  have t8 : (bits BinOp.and IntKind.i64 1 8 != 0) = false := by decide +kernel
  have t16 : (bits BinOp.and IntKind.i64 1 16 != 0) = false := by decide +kernel
  go_enter Tryz.func24, Tryz.ntmps24
  go_wp2_with fail
  refine (CF.out _).mono ?_
  rintro e w1 ⟨rfl, rfl⟩
  go_wp2_with fail
  exact bodyPost_ret (v := .agg (cells11 k b 0 zero6 ⟨#[]⟩ 0)) (results_blk rfl rfl (blk_mid _ 26 _ _ _) Tryz.underlying26 rfl (by kernel_rfl)) rfl ⟨rfl, below_three _ _ _ _⟩
set_option maxHeartbeats 1000000 in
theorem bare_at_8 (e : Evt) (w : World) (h : e.kind = 8) : Calls Tryz.prog 24 #[e.val] w (EvtPost (bareE e) w) := by
  have HV := Lib.hid (bare_8 h)
  have HF := Lib.hid (fields_8 h)
  have CF := Lib.hid (fields_any e.kind)
  clear h
  rw [HF.out] at CF
  unfold EvtPost
  rw [HV.out]
  obtain ⟨k, b, r, p, t, d⟩ := e
  unfold Evt.val
  dsimp only at CF ⊢
  have t1 : (bits BinOp.and IntKind.i64 8 1 != 0) = false := by decide +kernel
  have t2 : (bits BinOp.and IntKind.i64 8 2 != 0) = false := by decide +kernel
  have t4 : (bits BinOp.and IntKind.i64 8 4 != 0) = false := by decide +kernel
  have t8 : (bits BinOp.and IntKind.i64 8 8 != 0) = true := by decide +kernel
  have t16 : (bits BinOp.and IntKind.i64 8 16 != 0) = false := by decide +kernel
  go_enter Tryz.func24, Tryz.ntmps24
  go_wp2_with fail
  refine (CF.out _).mono ?_
  rintro e w1 ⟨rfl, rfl⟩
  go_wp2_with fail
  exact bodyPost_ret (v := .agg (cells11 k 0 r zero6 ⟨#[]⟩ 0)) (results_blk rfl rfl (blk_mid _ 26 _ _ _) Tryz.underlying26 rfl (by kernel_rfl)) rfl ⟨rfl, below_three _ _ _ _⟩
set_option maxHeartbeats 1000000 in
theorem bare_at_16 (e : Evt) (w : World) (h : e.kind = 10) : Calls Tryz.prog 24 #[e.val] w (EvtPost (bareE e) w) := by
  have HV := Lib.hid (bare_16 h)
  have HF := Lib.hid (fields_16 h)
  have CF := Lib.hid (fields_any e.kind)
  clear h
  rw [HF.out] at CF
  unfold EvtPost
  rw [HV.out]
  obtain ⟨k, b, r, p, t, d⟩ := e
  unfold Evt.val
  dsimp only at CF ⊢
  have t1 : (bits BinOp.and IntKind.i64 16 1 != 0) = false := by decide +kernel
  have t2 : (bits BinOp.and IntKind.i64 16 2 != 0) = false := by decide +kernel
  have t4 : (bits BinOp.and IntKind.i64 16 4 != 0) = false := by decide +kernel
  have t8 : (bits BinOp.and IntKind.i64 16 8 != 0) = false := by decide +kernel
  have t16 : (bits BinOp.and IntKind.i64 16 16 != 0) = true := by decide +kernel
  go_enter Tryz.func24, Tryz.ntmps24
  go_wp2_with fail
  refine (CF.out _).mono ?_
  rintro e w1 ⟨rfl, rfl⟩
  go_wp2_with fail
  exact bodyPost_ret (v := .agg (cells11 k 0 0 zero6 ⟨#[]⟩ d)) (results_blk rfl rfl (blk_mid _ 26 _ _ _) Tryz.underlying26 rfl (by kernel_rfl)) rfl ⟨rfl, below_three _ _ _ _⟩
theorem bare_any (e : Evt) (w : World) : Calls Tryz.prog 24 #[e.val] w (EvtPost (bareE e) w) := by
  rcases kind_cases e.kind with h | h | h | h | h | h | h
  · exact bare_at_4 e w h
  · exact bare_at_3 e w h
  · exact bare_at_5 e w h
  · exact bare_at_1 e w h
  · exact bare_at_8 e w h
  · exact bare_at_16 e w h
  · exact bare_at_0 e w h
end Go.Proofs.YtaikmgnpfbnjjaaGreatDoor.Ev
namespace Go.Proofs.YtaikmgnpfbnjjaaGreatDoor.Ev
open Go.ChangeShapes Go.WideShapes Go.ChangeAt Go.RowKit Gn Cat Lex
set_option linter.unusedVariables false
set_option linter.unusedSimpArgs false
theorem rdGo_most {most big : Nat} {l0 : List UInt8} (h : most ≤ big) : ∀ (l : List UInt8) (i x : Nat), rdGo most l0 l i x = if (rdGo big l0 l i x).2.e = 0 ∧ most < (rdGo big l0 l i x).1 then (0, ⟨l0, 4⟩) else rdGo big l0 l i x
  | [], i, x => by rw [rdGo_nil, rdGo_nil, if_neg (by rintro ⟨e, _⟩; cases e)]
  | b :: l, i, x => by
    rw [rdGo_cons, rdGo_cons]
    by_cases h1 : i = 9 ∧ 1 < b.toNat
    · rw [if_pos h1, if_pos h1, if_neg (by rintro ⟨e, _⟩; cases e)]
    · rw [if_neg h1, if_neg h1]
      by_cases h2 : 128 ≤ b.toNat
      · rw [if_pos h2, if_pos h2]
        exact rdGo_most h l (i + 1) _
      · rw [if_neg h2, if_neg h2]
        by_cases h3 : b.toNat = 0 ∧ 0 < i
        · rw [if_pos h3, if_pos h3, if_neg (by rintro ⟨e, _⟩; cases e)]
        · rw [if_neg h3, if_neg h3]
          generalize x + b.toNat % 128 * 128 ^ i = X
          by_cases h4 : big < X
          · rw [if_pos (Nat.lt_of_le_of_lt h h4), if_pos h4, if_neg (by rintro ⟨e, _⟩; cases e)]
          · rw [if_neg h4]
            by_cases h5 : most < X
            · rw [if_pos h5, if_pos ⟨rfl, h5⟩]
            · rw [if_neg h5, if_neg (by rintro ⟨_, e⟩; exact h5 e)]
theorem rdGo_le {most : Nat} {l0 : List UInt8} : ∀ (l : List UInt8) (i x : Nat), (rdGo most l0 l i x).1 ≤ most
  | [], i, x => Nat.zero_le _
  | b :: l, i, x => by
    rw [rdGo_cons]
    split
    · exact Nat.zero_le _
    · split
      · exact rdGo_le l _ _
      · split
        · exact Nat.zero_le _
        · split
          · exact Nat.zero_le _
          · rename_i h; exact Nat.le_of_not_lt h
theorem rdU_le (most : Nat) (r : Rd) : (rdU most r).1 ≤ most := by
  unfold rdU
  split
  · exact Nat.zero_le _
  · exact rdGo_le _ _ _
/-- readers that are the same in all that is seen -/
structure Req (a b : Rd) : Prop where
  e : a.e = b.e
  l : b.e = 0 → a.l = b.l
theorem Req.refl (a : Rd) : Req a a := ⟨rfl, fun _ => rfl⟩
theorem Req.zero {a b : Rd} (h : Req a b) (h0 : b.e = 0) : a = b := by
  obtain ⟨l, e⟩ := a
  obtain ⟨k, f⟩ := b
  obtain ⟨h1, h2⟩ := h
  dsimp only at h1 h2 h0
  rw [h2 h0, h1]
theorem req_rdU {most : Nat} {a b : Rd} (h : Req a b) : (rdU most a).1 = (rdU most b).1 ∧ Req (rdU most a).2 (rdU most b).2 := by
  by_cases h0 : b.e = 0
  · rw [h.zero h0]; exact ⟨rfl, Req.refl _⟩
  · have h1 : a.e ≠ 0 := by rw [h.e]; exact h0
    unfold rdU
    rw [if_pos h0, if_pos h1]
    exact ⟨rfl, h⟩
theorem req_fail {x : Int} {a b : Rd} (h : Req a b) : Req (rdFail a x) (rdFail b x) := by
  by_cases h0 : b.e = 0
  · rw [h.zero h0]; exact Req.refl _
  · unfold rdFail
    rw [if_pos h0, if_pos (by rw [h.e]; exact h0)]
    exact h
theorem req_rdT {most : Nat} {a b : Rd} (h : Req a b) : (rdT most a).1 = (rdT most b).1 ∧ Req (rdT most a).2 (rdT most b).2 := by
  by_cases h0 : b.e = 0
  · rw [h.zero h0]; exact ⟨rfl, Req.refl _⟩
  · have h1 : a.e ≠ 0 := by rw [h.e]; exact h0
    have e1 : rdU most a = (0, a) := by unfold rdU; rw [if_pos h1]
    have e2 : rdU most b = (0, b) := by unfold rdU; rw [if_pos h0]
    unfold rdT
    rw [e1, e2, if_pos h1, if_pos h0]
    exact ⟨rfl, h⟩
theorem req_end {a b : Rd} (h : Req a b) : rdEnd a = rdEnd b := by
  by_cases h0 : b.e = 0
  · rw [h.zero h0]
  · unfold rdEnd
    rw [if_neg (fun e => h0 (h.e ▸ e.1)), if_neg (fun e => h0 e.1), h.e]
/-- a text, checked in the reference's order -/
theorem rdT_ref {most big : Nat} (hm : most ≤ big) (r : Rd) (n : Nat) (R : Rd) (h : (rdU big r).1 = n ∧ Req R (rdU big r).2) :
    (R.e ≠ 0 → (rdT most r).1 = ⟨#[]⟩ ∧ Req R (rdT most r).2) ∧
    (R.e = 0 → most < n → (rdT most r).1 = ⟨#[]⟩ ∧ Req ⟨R.l, 4⟩ (rdT most r).2) ∧
    (R.e = 0 → ¬ most < n → R.l.length < n → (rdT most r).1 = ⟨#[]⟩ ∧ Req ⟨R.l, 1⟩ (rdT most r).2) ∧
    (R.e = 0 → ¬ most < n → ¬ R.l.length < n → (rdT most r).1 = ⟨(R.l.take n).toArray⟩ ∧ Req ⟨R.l.drop n, 0⟩ (rdT most r).2) := by
  obtain ⟨h1, h2⟩ := h
  by_cases h0 : r.e ≠ 0
  · have e1 : ∀ m, rdU m r = (0, r) := fun m => by unfold rdU; rw [if_pos h0]
    rw [e1] at h1 h2
    have hR : R.e ≠ 0 := by rw [h2.e]; exact h0
    unfold rdT
    rw [e1, if_pos h0]
    exact ⟨fun _ => ⟨rfl, h2⟩, fun e => absurd e hR, fun e => absurd e hR, fun e => absurd e hR⟩
  · have e1 : ∀ m, rdU m r = rdGo m r.l r.l 0 0 := fun m => by unfold rdU; rw [if_neg h0]
    have hk := rdGo_most (l0 := r.l) hm r.l 0 0
    rw [e1] at h1 h2
    unfold rdT
    rw [e1]
    generalize rdGo big r.l r.l 0 0 = q at *
    generalize rdGo most r.l r.l 0 0 = p at *
    obtain ⟨q1, q2⟩ := q
    dsimp only at h1 h2 hk ⊢
    subst h1
    by_cases hq : q2.e = 0
    · have hR : R = q2 := h2.zero hq
      subst hR
      refine ⟨fun e => absurd hq e, fun _ h3 => ?_, fun _ h3 h4 => ?_, fun _ h3 h4 => ?_⟩
      · rw [if_pos ⟨hq, h3⟩] at hk
        subst hk
        rw [if_pos (show (4 : Int) ≠ 0 by decide)]
        exact ⟨rfl, ⟨rfl, fun e => by cases e⟩⟩
      · rw [if_neg (fun e => h3 e.2)] at hk
        subst hk
        dsimp only
        rw [if_neg (by simpa using hq), if_pos h4]
        exact ⟨rfl, ⟨rfl, fun e => by cases e⟩⟩
      · rw [if_neg (fun e => h3 e.2)] at hk
        subst hk
        dsimp only
        rw [if_neg (by simpa using hq), if_neg h4]
        exact ⟨rfl, Req.refl _⟩
    · have hR : R.e ≠ 0 := by rw [h2.e]; exact hq
      rw [if_neg (fun e => hq e.1)] at hk
      subst hk
      dsimp only
      rw [if_pos hq]
      exact ⟨fun _ => ⟨rfl, h2⟩, fun e => absurd e hR, fun e => absurd e hR, fun e => absurd e hR⟩
end Go.Proofs.YtaikmgnpfbnjjaaGreatDoor.Ev
