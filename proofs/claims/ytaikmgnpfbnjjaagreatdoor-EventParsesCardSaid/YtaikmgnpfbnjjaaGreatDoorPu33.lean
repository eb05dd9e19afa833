/- Contract of event.Parse. Printed by gen_eva3.py. Contracts of the reference's Uint, Text, number, names, Name, Has; of the reference's check of a bundle. Printed by gen_evc0.py. -/
import Derived.Test.YtaikmgnpfbnjjaaGreatDoorPu32
import Derived.Deep.RegionHeld3
import Derived.Deep.RegionLaw
import Derived.Test.YtaikmgnpfbnjjaaGreatDoorPu23
import Derived.Test.YtaikmgnpfbnjjaaGreatDoorPu27
import Derived.Test.YtaikmgnpfbnjjaaGreatDoorPu21
import Derived.Test.YtaikmgnpfbnjjaaGreatDoorPu06
import Derived.Deep.RegionWith
namespace Go.Proofs.YtaikmgnpfbnjjaaGreatDoor.Ev
open Go.ChangeShapes Go.WideShapes Go.ChangeAt Go.RowKit Gn Cat Lex Ros Se
set_option linter.unusedVariables false
set_option linter.unusedSimpArgs false
/-- the setup's box, the result's block, the event under way -/
structure PM (w wx : World) (ge : Nat) (sv cs : Array Value) : Prop where
  su : Blk wx w.heap.size 42 sv
  res : Blk wx (w.heap.size + 1) 26 #[.int .i64 0, .int .i64 0, .int .i64 0, .int .i64 0, .int .i64 0, .int .i64 0, .int .i64 0, .int .i64 0, .int .i64 0, .string ⟨#[]⟩, .int .u64 0]
  ev : Blk wx ge 26 cs
  hg : w.heap.size + 1 < ge
  bl : Below w.heap.size w wx
section
variable {w wx wy : World} {ge : Nat} {sv cs : Array Value}
theorem PM.keep (h : PM w wx ge sv cs) (b : Below wx.heap.size wx wy) : PM w wy ge sv cs := ⟨h.su.below' b, h.res.below' b, h.ev.below' b, h.hg, chain0 h.bl b⟩
theorem PM.puts {a0 a1 a2 a3 a4 a5 a6 a7 a8 a9 a10 : Value} (h : PM w wx ge sv #[a0, a1, a2, a3, a4, a5, a6, a7, a8, a9, a10]) (b0 b1 b2 b3 b4 b5 b6 b7 b8 b9 b10 : Value) : PM w (((((((((((wx.setCell ⟨ge, 0, none⟩ b0).setCell ⟨ge, 1, none⟩ b1).setCell ⟨ge, 2, none⟩ b2).setCell ⟨ge, 3, none⟩ b3).setCell ⟨ge, 4, none⟩ b4).setCell ⟨ge, 5, none⟩ b5).setCell ⟨ge, 6, none⟩ b6).setCell ⟨ge, 7, none⟩ b7).setCell ⟨ge, 8, none⟩ b8).setCell ⟨ge, 9, none⟩ b9).setCell ⟨ge, 10, none⟩ b10) ge sv #[b0, b1, b2, b3, b4, b5, b6, b7, b8, b9, b10] := by
  have hs : w.heap.size ≠ ge := by have := h.hg; omega
  have hr : w.heap.size + 1 ≠ ge := by have := h.hg; omega
  exact ⟨(((((((((((h.su.far (p := ⟨ge, 0, none⟩) hs b0).far (p := ⟨ge, 1, none⟩) hs b1).far (p := ⟨ge, 2, none⟩) hs b2).far (p := ⟨ge, 3, none⟩) hs b3).far (p := ⟨ge, 4, none⟩) hs b4).far (p := ⟨ge, 5, none⟩) hs b5).far (p := ⟨ge, 6, none⟩) hs b6).far (p := ⟨ge, 7, none⟩) hs b7).far (p := ⟨ge, 8, none⟩) hs b8).far (p := ⟨ge, 9, none⟩) hs b9).far (p := ⟨ge, 10, none⟩) hs b10), (((((((((((h.res.far (p := ⟨ge, 0, none⟩) hr b0).far (p := ⟨ge, 1, none⟩) hr b1).far (p := ⟨ge, 2, none⟩) hr b2).far (p := ⟨ge, 3, none⟩) hr b3).far (p := ⟨ge, 4, none⟩) hr b4).far (p := ⟨ge, 5, none⟩) hr b5).far (p := ⟨ge, 6, none⟩) hr b6).far (p := ⟨ge, 7, none⟩) hr b7).far (p := ⟨ge, 8, none⟩) hr b8).far (p := ⟨ge, 9, none⟩) hr b9).far (p := ⟨ge, 10, none⟩) hr b10), put_all h.ev b0 b1 b2 b3 b4 b5 b6 b7 b8 b9 b10, h.hg, below_all h.bl (by have := h.hg; omega) b0 b1 b2 b3 b4 b5 b6 b7 b8 b9 b10⟩
end
theorem only_puts (wx : World) (ge : Nat) (b0 b1 b2 b3 b4 b5 b6 b7 b8 b9 b10 : Value) : Only ge wx (((((((((((wx.setCell ⟨ge, 0, none⟩ b0).setCell ⟨ge, 1, none⟩ b1).setCell ⟨ge, 2, none⟩ b2).setCell ⟨ge, 3, none⟩ b3).setCell ⟨ge, 4, none⟩ b4).setCell ⟨ge, 5, none⟩ b5).setCell ⟨ge, 6, none⟩ b6).setCell ⟨ge, 7, none⟩ b7).setCell ⟨ge, 8, none⟩ b8).setCell ⟨ge, 9, none⟩ b9).setCell ⟨ge, 10, none⟩ b10) := ((((((((((((Only.refl ge wx).put 0 b0).put 1 b1).put 2 b2).put 3 b3).put 4 b4).put 5 b5).put 6 b6).put 7 b7).put 8 b8).put 9 b9).put 10 b10)
theorem ws_only {w w' : World} {n g c : Nat} {A : Option Addr} {ws : List ByteArray} (h : WS w (.slice A n c) ws) (hA : 0 < n → ∃ b o, A = some ⟨b, o, none⟩ ∧ b ≠ g) (o : Only g w w') : WS w' (.slice A n c) ws := by
  obtain ⟨h0, A', c', h1, h2, h3, h4⟩ := h
  obtain ⟨e1, en, e2⟩ := Value.slice.inj h1
  subst e1 e2
  refine ⟨h0, A, c, by rw [en], h2, h3, fun hn => ?_⟩
  obtain ⟨b, off, e, hlt, hc⟩ := h4 hn
  obtain ⟨b', o', e', hne⟩ := hA (by omega)
  rw [e] at e'
  injection e' with e'
  injection e' with e5 e6
  subst e5 e6
  refine ⟨b, off, e, Nat.lt_of_lt_of_le hlt o.size, fun j u hu => ?_⟩
  rw [← hc j u hu]
  have := o.block b hlt hne
  unfold World.cell?
  simp only [this]
/-- what Parse has made ahead of its event -/
structure PN (w wx : World) (sv : Array Value) : Prop where
  su : Blk wx w.heap.size 42 sv
  res : Blk wx (w.heap.size + 1) 26 #[.int .i64 0, .int .i64 0, .int .i64 0, .int .i64 0, .int .i64 0, .int .i64 0, .int .i64 0, .int .i64 0, .int .i64 0, .string ⟨#[]⟩, .int .u64 0]
  bl : Below w.heap.size w wx
theorem pn_new (w : World) (sv : Array Value) : PN w ((w.alloc (.cells sv 42)).alloc (.cells #[.int .i64 0, .int .i64 0, .int .i64 0, .int .i64 0, .int .i64 0, .int .i64 0, .int .i64 0, .int .i64 0, .int .i64 0, .string ⟨#[]⟩, .int .u64 0] 26)) sv := by
  have h := Blk.new (w.alloc (.cells sv 42)) 26 #[.int .i64 0, .int .i64 0, .int .i64 0, .int .i64 0, .int .i64 0, .int .i64 0, .int .i64 0, .int .i64 0, .int .i64 0, .string ⟨#[]⟩, .int .u64 0]
  rw [World.size_alloc] at h
  exact ⟨(Blk.new w 42 sv).alloc _, h, (below_new w _).alloc (below_new w _).size _⟩
theorem PN.keep {w wx wy : World} {sv : Array Value} (h : PN w wx sv) (b : Below wx.heap.size wx wy) : PN w wy sv := ⟨h.su.below' b, h.res.below' b, chain0 h.bl b⟩
theorem PN.ev {w wx : World} {sv : Array Value} (h : PN w wx sv) (cs : Array Value) : PM w (wx.alloc (.cells cs 26)) wx.heap.size sv cs :=
  ⟨h.su.alloc _, h.res.alloc _, Blk.new wx 26 cs, h.res.lt, h.bl.alloc h.bl.size _⟩
theorem pv_long {S : SetD} {s : ByteArray} (h : 4000 < s.size) : parseV S s = (noEvt, 3) := by unfold parseV; rw [if_pos h]
theorem pv_kind {S : SetD} {s : ByteArray} (h : ¬ 4000 < s.size) (hk : kindOf (cutL s.data.toList).1 = 0) : parseV S s = (noEvt, 22) := by
  unfold parseV
  rw [if_neg h]
  dsimp only
  rw [if_pos hk]
theorem pv_words {S : SetD} {s : ByteArray} {k : Int} (h : ¬ 4000 < s.size) (hk : kindOf (cutL s.data.toList).1 = k) (h0 : k ≠ 0) (hw : isW k s = false) : parseV S s = (noEvt, 2) := by
  subst hk
  unfold parseV
  rw [if_neg h]
  dsimp only
  rw [if_neg h0, if_pos hw]
abbrev nameW (s : ByteArray) : ByteArray := ofL (cutL (cutL s.data.toList).2.1).1
theorem pv_none {S : SetD} {s : ByteArray} {k : Int} (h : ¬ 4000 < s.size) (hk : kindOf (cutL s.data.toList).1 = k) (h0 : k ≠ 0) (hw : isW k s = true) (hb : hasB k) (hn : findB S.bs (nameW s) = none) : parseV S s = (noEvt, 6) := by
  subst hk
  unfold parseV
  rw [if_neg h]
  dsimp only
  rw [if_neg h0, if_neg (by rw [show wordsL _ _ _ = true from hw]; simp), if_pos ⟨hb, hn⟩]
def endV (F : Evt × Int) : Evt × Int := if F.2 ≠ 0 then (noEvt, F.2) else if checkV F.1 ≠ 0 then (noEvt, checkV F.1) else (F.1, 0)
theorem pv_rest {S : SetD} {s : ByteArray} {k : Int} (h : ¬ 4000 < s.size) (hk : kindOf (cutL s.data.toList).1 = k) (h0 : k ≠ 0) (hw : isW k s = true) (hn : ¬ (hasB k ∧ findB S.bs (nameW s) = none)) : parseV S s = endV (fieldV S k (if hasB k then (((findB S.bs (nameW s)).getD 0 : Nat) : Int) else 0) (lastOf k (cutL s.data.toList).2.1)) := by
  subst hk
  unfold parseV endV
  rw [if_neg h]
  dsimp only
  rw [if_neg h0, if_neg (by rw [show wordsL _ _ _ = true from hw]; simp), if_neg hn]
theorem end_err {F : Evt × Int} (h : F.2 ≠ 0) : endV F = (noEvt, F.2) := by unfold endV; rw [if_pos h]
theorem end_chk {F : Evt × Int} (h : F.2 = 0) (h2 : checkV F.1 ≠ 0) : endV F = (noEvt, checkV F.1) := by unfold endV; rw [if_neg (fun x => x h), if_pos h2]
theorem end_ok {F : Evt × Int} (h : F.2 = 0) (h2 : checkV F.1 = 0) : endV F = (F.1, 0) := by unfold endV; rw [if_neg (fun x => x h), if_neg (fun x => x h2)]
theorem only_name {s : ByteArray} {k : Int} (hk : k = 6 ∨ k = 7) (hw : isW k s = true) : ofL (cutL s.data.toList).2.1 = nameW s := by
  have h : ((cutL s.data.toList).2.2 && !(cutL (cutL s.data.toList).2.1).2.2) = true := by
    unfold isW wordsL at hw
    rw [if_neg (by omega), if_neg (by omega), if_neg (by omega), if_neg (by omega)] at hw
    exact hw
  simp only [Bool.and_eq_true, Bool.not_eq_true'] at h
  show _ = ofL _
  rw [(cut_no h.2).2.1]
theorem rest_size (s : ByteArray) : (cutL s.data.toList).2.1.length ≤ s.size ∧ (nameW s).size ≤ s.size ∧ (cutL (cutL s.data.toList).2.1).2.1.length ≤ s.size := by
  have h1 := (cut_size s.data.toList).2
  have h2 := cut_size (cutL s.data.toList).2.1
  have h3 : s.data.toList.length = s.size := rfl
  rw [show (nameW s).size = (cutL (cutL s.data.toList).2.1).1.length from ofL_size _]
  omega
abbrev ParseP (q : Evt × Int) (w : World) : Ending → World → Prop := fun e w' => e = .returned (.tuple #[q.1.val, .int .i64 q.2]) ∧ Below w.heap.size w w'
theorem unhV_lt (s : ByteArray) : (Sum.unhV s).1 < 18446744073709551616 := by
  unfold Sum.unhV
  split
  · rename_i h
    split
    · decide
    · rename_i x hx
      have := Sum.unh_lt _ hx
      have h2 : s.data.toList.length = 16 := h
      rw [h2] at this
      exact Nat.lt_of_lt_of_le this (by decide)
  · decide
theorem fld_10 {S : SetD} {i : Int} {last : List UInt8} : fieldV S 10 i last = ((⟨10, i, 0, zero6, ⟨#[]⟩, (Sum.unhV (ofL last)).1⟩ : Evt), (Sum.unhV (ofL last)).2) := by
  have hsz : (ofL last).size = last.length := ofL_size last
  show (match (if last.length = 16 then Sum.unh 0 last else none) with | none => _ | some n => _) = _
  unfold Sum.unhV
  rw [hsz, ofL_list]
  by_cases h : last.length = 16
  · rw [if_pos h, if_pos h]
    cases Sum.unh 0 last <;> rfl
  · rw [if_neg h, if_neg h]
theorem setT_len (l : List UInt8) : (setT l).length ≤ l.length + 1 := by
  unfold setT
  split
  · rw [repl_len]; omega
  · rw [List.length_append, repl_len]; simp
end Go.Proofs.YtaikmgnpfbnjjaaGreatDoor.Ev
namespace Go.Proofs.YtaikmgnpfbnjjaaGreatDoor.Ev
open Go.ChangeShapes Go.WideShapes Go.ChangeAt Go.RowKit Gn Cat Lex Ros Se
set_option linter.unusedVariables false
set_option linter.unusedSimpArgs false
def valE (p : Nat → Int) : Int := if validB p = true then 0 else 4
theorem valE_bad {p : Nat → Int} {k : Nat} (hk : k < 6) (h : ¬ (0 ≤ p k ∧ p k ≤ 4)) : valE p = 4 := if_neg (fun hv => h (validB_iff.1 hv k hk))
theorem valE_ok {p : Nat → Int} (h : ∀ k, k < 6 → 0 ≤ p k ∧ p k ≤ 4) : valE p = 0 := if_pos (validB_iff.2 h)
set_option maxHeartbeats 1000000 in
theorem r7check_any (p : Nat → Int) (w : World) : Calls Tryz.prog 28 #[.agg (arr p)] w fun e w' => e = .returned (.int .i64 (valE p)) ∧ Below w.heap.size w w' := by
  have K0 := Lib.hid (box_new w p 23)
  have B0 := Lib.hid (below_new w (.cells (arr p) 23))
  have HB := Lib.hid (fun k (hk : k < 6) (h : ¬ (0 ≤ p k ∧ p k ≤ 4)) => valE_bad hk h)
  have HO := Lib.hid (fun h => valE_ok (p := p) h)
  unfold arr at K0 B0
  unfold arr
  go_enter Tryz.func28, Tryz.ntmps28
  go_wp2_with fail
  obtain ⟨w0, hw0⟩ : ∃ W, W = w.alloc (.cells #[.int .i64 (p 0), .int .i64 (p 1), .int .i64 (p 2), .int .i64 (p 3), .int .i64 (p 4), .int .i64 (p 5)] 23) := ⟨_, rfl⟩
  rw [← hw0] at K0 B0 ⊢
  clear hw0
  go_loopw [3] (fun i wr => ∃ k : Nat, k ≤ 6 ∧ i = .int .i64 (k : Int) ∧ Hid (∀ j, j < k → 0 ≤ p j ∧ p j ≤ 4) ∧ w0 = wr) (fun i _ => 6 - (intOf i).toNat)
  case atStart => exact ⟨0, by omega, rfl, fun j h => absurd h (by omega), rfl⟩
  case round =>
    obtain ⟨k, hk, rfl, HP, rfl⟩ := hrel
    by_cases hlt : k < 6
    · have hd : decide ((k : Int) < 6) = true := decide_eq_true (by omega)
      have hi0 : (0 : Int) ≤ (k : Int) := by omega
      have hk6 : (k : Int) < 6 := by omega
      have hbk := K0.out.cell k hlt
      have gz := K0.out.lt
      have HPB := Lib.hid (HB.out k hlt)
      have HPK : Hid (0 ≤ p k ∧ p k ≤ 4 → ∀ j, j < k + 1 → 0 ≤ p j ∧ p j ≤ 4) := fun h j hj => by
        by_cases e : j = k
        · rw [e]; exact h
        · exact HP.out j (by omega)
      generalize p k = pk at *
      by_cases h0 : pk < 0
      · have d0 : decide (pk < 0) = true := decide_eq_true h0
        have HV := Lib.hid (HPB.out (by omega))
        go_wp2_with fail
        go_ret
        exact ⟨by rw [HV.out]; rfl, B0.out⟩
      · have d0 : decide (pk < 0) = false := decide_eq_false h0
        by_cases h4 : 4 < pk
        · have d4 : decide (4 < pk) = true := decide_eq_true h4
          have HV := Lib.hid (HPB.out (by omega))
          go_wp2_with fail
          go_ret
          exact ⟨by rw [HV.out]; rfl, B0.out⟩
        · have d4 : decide (4 < pk) = false := decide_eq_false h4
          have HP2 := Lib.hid (HPK.out (by omega))
          go_wp2_with fail
          go_roundw
          case rel => exact ⟨k + 1, by omega, by go_num, HP2.out, by first | rfl | trivial⟩
          case measure => simp [intOf]; omega
    · obtain rfl : k = 6 := by omega
      have hd : decide (((6 : Nat) : Int) < 6) = false := by decide
      have HV := Lib.hid (HO.out HP.out)
      go_wp2_with fail
      go_ret
      exact ⟨by rw [HV.out]; rfl, B0.out⟩
theorem conv_keep {w w' : World} {b : Int} {c : UInt8} (h : b = (c.toNat : Int)) (d : Below (w.alloc (.cells #[.int .u8 b] 5)).heap.size (w.alloc (.cells #[.int .u8 b] 5)) w') : (convert 106 9 (.slice (some ⟨w.heap.size, 0, none⟩) 1 1)).run Tryz.prog w' = .ok (.string ⟨#[c]⟩) w' := by
  subst h
  refine back_cells _ _ 1 1 [c] rfl fun j u hu => ?_
  rw [OpenAdd.add_at, Nat.zero_add, ((Blk.new w 5 _).below' d).cell]
  simpa [u8s] using hu
theorem conv_keep2 {w w' : World} {b : Int} {c : UInt8} (h : b = (c.toNat : Int)) (d : Below ((w.alloc (.cells #[.int .u8 b] 5)).drew).heap.size ((w.alloc (.cells #[.int .u8 b] 5)).drew) w') : (convert 106 9 (.slice (some ⟨w.heap.size, 0, none⟩) 1 1)).run Tryz.prog w' = .ok (.string ⟨#[c]⟩) w' :=
  conv_keep h (chain0 ((Below.refl _ _).drew) d)
theorem uint_step {x : Nat} (h : ¬ x < 128) (hx : x < 18446744073709551616) : uintB x = ⟨#[UInt8.ofNat (128 + x % 128)]⟩ ++ uintB (x / 128) := by
  unfold uintB
  rw [uintL_big h hx]
  apply ByteArray.ext
  apply Array.toList_inj.1
  simp
theorem ruintQ {y : Nat} (h : ∀ w : World, Calls Tryz.prog 70 #[.int .u64 (y : Int)] w (StrPost (uintB y) w)) (W : World) (q : Int) (hq : q = (y : Int)) : Calls Tryz.prog 70 #[.int .u64 q] W (StrPost (uintB y) W) := by
  rw [hq]
  exact h W
set_option maxHeartbeats 2000000 in
set_option maxRecDepth 100000 in
theorem ruintS_any : ∀ (n x : Nat), x < n → x < 18446744073709551616 → ∀ w : World, Calls Tryz.prog 70 #[.int .u64 (x : Int)] w (StrPost (uintB x) w)
  | 0, x, h, _, _ => absurd h (Nat.not_lt_zero x)
  | n + 1, x, hn, hx, w => by
    by_cases h : x < 128
    · have hv : uintB x = ⟨#[UInt8.ofNat x]⟩ := by unfold uintB; rw [uintL_small h]
      rw [hv]
      have hd : decide ((x : Int) < 128) = true := decide_eq_true (by omega)
      have HB := ruint_one (x : Int) (UInt8.ofNat x) w (uint_one x h)
      generalize UInt8.ofNat x = c at *
      go_enter Tryz.func70, Tryz.ntmps70
      go_wp2_with fail
      go_ret
      exact ⟨rfl, below_new _ _⟩
    · have IH := Lib.hid (fun W (q : Int) (hq : q = ((x / 128 : Nat) : Int)) => ruintQ (ruintS_any n (x / 128) (by omega) (by omega)) W q hq)
      have hd : decide ((x : Int) < 128) = false := decide_eq_false (by omega)
      rw [uint_step h hx]
      have hc : IntKind.u8.wrap (IntKind.u64.wrap ((x : Int).tmod 128 + 128)) = ((UInt8.ofNat (128 + x % 128)).toNat : Int) := by
        rw [Int.tmod_eq_emod_of_nonneg (by omega), IntWalk.u64_in _ (by omega), IntWalk.u8_in _ (by omega)]
        show _ = (((128 + x % 128) % 256 : Nat) : Int)
        omega
      have HC := Lib.hid hc
      have HQ : Hid (IntKind.u64.wrap ((x : Int) / 128) = ((x / 128 : Nat) : Int)) := by
        show _ = _
        rw [IntWalk.u64_in _ (by omega)]
        omega
      have HA := fun W => add_s ⟨#[UInt8.ofNat (128 + x % 128)]⟩ (uintB (x / 128)) (by have := uintB_size (x / 128); show 1 + _ ≤ _; omega) W
      have HB := fun W => ruint_one (IntKind.u8.wrap (IntKind.u64.wrap ((x : Int).tmod 128 + 128))) (UInt8.ofNat (128 + x % 128)) W hc
      have HB2 := fun W => conv_keep (w := W) hc ((Below.refl _ _).drew)
      have HXX := Lib.hid hx
      have HX1 := Lib.hid h
      clear hx h hc hn
      generalize uintB (x / 128) = r2 at *
      generalize UInt8.ofNat (128 + x % 128) = c at *
      go_enter Tryz.func70, Tryz.ntmps70
      go_wp2_with fail
      go_region_with (first | (go_at_call 70; refine (IH.out _ _ HQ.out).mono ?_; rintro e w' ⟨rfl, d⟩; try have cv := conv_keep2 HC.out d; try have cv := conv_keep HC.out d))
      all_goals
        go_wp2_with fail
        go_ret
        first | exact ⟨rfl, chain0 ((below_new w _).drew) d⟩ | exact ⟨rfl, (chain0 ((Below.refl _ _).drew) d).alloc (chain0 ((Below.refl _ _).drew) d).size _⟩
theorem ruintn_any (x : Nat) (w : World) (hx : x < 18446744073709551616) : Calls Tryz.prog 70 #[.int .u64 (x : Int)] w (StrPost (uintB x) w) := ruintS_any (x + 1) x (Nat.lt_succ_self x) hx w
theorem rnum_any (x : Int) (h : 0 ≤ x ∧ x < 1000) (w : World) : Calls Tryz.prog 68 #[.int .i64 x] w (StrPost (uintB x.toNat) w) := by
  have CU := Lib.hid (fun W => ruintn_any x.toNat W (by omega))
  rw [show ((x.toNat : Nat) : Int) = x by omega] at CU
  have HW := Lib.hid (u64_pos x h)
  generalize uintB x.toNat = r at *
  have hx0 := h.1
  go_enter Tryz.func68, Tryz.ntmps68
  go_wp2_with fail
  try rw [HW.out]
  refine (CU.out _).mono ?_
  rintro e w1 ⟨rfl, b1⟩
  go_wp2_with fail
  go_ret
  exact ⟨rfl, b1⟩
theorem rwtext_any (s : ByteArray) (w : World) (hs : s.size ≤ 5000) : Calls Tryz.prog 69 #[.string s] w (StrPost (textB s) w) := by
  have CU := Lib.hid (fun W => ruintn_any s.size W (by omega))
  have HA := fun W => add_s (uintB s.size) s (by have := uintB_size s.size; omega) W
  rw [← text_cat]
  go_enter Tryz.func69, Tryz.ntmps69
  go_wp2_with fail
  refine (CU.out _).mono ?_
  rintro e w1 ⟨rfl, b1⟩
  go_wp2_with fail
  go_ret
  exact ⟨rfl, b1⟩
theorem rnames_any (w : World) : Calls Tryz.prog 30 #[] w fun e w' => e = .returned (.slice (some ⟨w.heap.size, 0, none⟩) 11 11) ∧ w' = w.alloc (.cells #[.string ⟨#[]⟩, .string ⟨#[115, 97, 108, 101]⟩, .string ⟨#[100, 101, 109, 97, 110, 100]⟩, .string ⟨#[114, 111, 117, 110, 100]⟩, .string ⟨#[115, 116, 111, 112]⟩, .string ⟨#[98, 105, 100]⟩, .string ⟨#[119, 105, 116, 104, 100, 114, 97, 119]⟩, .string ⟨#[100, 105, 115, 113, 117, 97, 108, 105, 102, 121]⟩, .string ⟨#[114, 101, 114, 117, 110]⟩, .string ⟨#[99, 108, 111, 115, 101]⟩, .string ⟨#[100, 101, 99, 105, 100, 101]⟩] 9) := by
  go_enter Tryz.func30, Tryz.ntmps30
  go_wp2_with fail
  go_ret
  exact ⟨rfl, rfl⟩
set_option maxHeartbeats 2000000 in
theorem rname_any (k : Int) (w : World) : Calls Tryz.prog 12 #[.int .i64 k] w (StrPost (nameK k) w) := by
  have CN := Lib.hid rnames_any
  by_cases h1 : k < 1
  · have HV : Hid (nameK k = ⟨#[]⟩) := by
      show nameK k = _
      unfold nameK
      rw [if_neg (by omega), if_neg (by omega), if_neg (by omega), if_neg (by omega), if_neg (by omega), if_neg (by omega), if_neg (by omega), if_neg (by omega), if_neg (by omega), if_neg (by omega)]
    have hd : decide (k < 1) = true := decide_eq_true h1
    clear h1
    go_enter Tryz.func12, Tryz.ntmps12
    go_wp2_with fail
    go_ret
    exact ⟨by rw [HV.out]; rfl, Below.refl _ _⟩
  · have hd : decide (k < 1) = false := decide_eq_false h1
    by_cases h2 : 10 < k
    · have HV : Hid (nameK k = ⟨#[]⟩) := by
        show nameK k = _
        unfold nameK
        rw [if_neg (by omega), if_neg (by omega), if_neg (by omega), if_neg (by omega), if_neg (by omega), if_neg (by omega), if_neg (by omega), if_neg (by omega), if_neg (by omega), if_neg (by omega)]
      have hd2 : decide (10 < k) = true := decide_eq_true h2
      clear h1 h2
      go_enter Tryz.func12, Tryz.ntmps12
      go_wp2_with fail
      go_ret
      exact ⟨by rw [HV.out]; rfl, Below.refl _ _⟩
    · have hk : k = 1 ∨ k = 2 ∨ k = 3 ∨ k = 4 ∨ k = 5 ∨ k = 6 ∨ k = 7 ∨ k = 8 ∨ k = 9 ∨ k = 10 := by omega
      clear h1 h2 hd
      rcases hk with rfl | rfl | rfl | rfl | rfl | rfl | rfl | rfl | rfl | rfl
      all_goals
        go_enter Tryz.func12, Tryz.ntmps12
        go_wp2_with fail
        refine (CN.out _).mono ?_
        rintro e w1 ⟨rfl, rfl⟩
        go_wp2_with fail
        go_ret
        exact ⟨rfl, below_new _ _⟩
def hasBb (k : Int) : Bool := k == 2 || (k == 5 || (k == 6 || k == 7))
theorem rhas_any (k : Int) (w : World) : Calls Tryz.prog 41 #[.int .i64 k] w fun e w' => e = .returned (.bool (hasBb k)) ∧ w' = w := by
  have HV : Hid (hasBb k = (k == 2 || (k == 5 || (k == 6 || k == 7)))) := rfl
  generalize hasBb k = v at *
  cases h2 : (k == 2)
  case true =>
    go_enter Tryz.func41, Tryz.ntmps41
    go_wp2_with fail
    go_ret
    exact ⟨by rw [HV.out, h2]; rfl, rfl⟩
  cases h5 : (k == 5)
  case true =>
    go_enter Tryz.func41, Tryz.ntmps41
    go_wp2_with fail
    go_ret
    exact ⟨by rw [HV.out, h2, h5]; rfl, rfl⟩
  cases h6 : (k == 6)
  case true =>
    go_enter Tryz.func41, Tryz.ntmps41
    go_wp2_with fail
    go_ret
    exact ⟨by rw [HV.out, h2, h5, h6]; rfl, rfl⟩
  cases h7 : (k == 7)
  all_goals
    go_enter Tryz.func41, Tryz.ntmps41
    go_wp2_with fail
    go_ret
    exact ⟨by rw [HV.out, h2, h5, h6, h7]; rfl, rfl⟩
end Go.Proofs.YtaikmgnpfbnjjaaGreatDoor.Ev
