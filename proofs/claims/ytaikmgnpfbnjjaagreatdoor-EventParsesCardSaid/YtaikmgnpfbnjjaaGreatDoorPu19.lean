/- Plain: events, their encoding, and what the readers of bytes give back. Plain: numbers in groups of seven bits, a reader's sum. Contracts of wire.Uint and Text, of both sides. An event's eleven cells in memory. Printed by gen_evC.py. -/
import Derived.Test.YtaikmgnpfbnjjaaGreatDoorPu07
import Derived.Test.YtaikmgnpfbnjjaaGreatDoorPu05
import Derived.Test.YtaikmgnpfbnjjaaGreatDoorPu09
import Derived.Test.YtaikmgnpfbnjjaaGreatDoorPu12
import Derived.Test.YtaikmgnpfbnjjaaGreatDoorPu13
import Derived.Test.YtaikmgnpfbnjjaaGreatDoorPu11
import Derived.Test.YtaikmgnpfbnjjaaGreatDoorPu14
import Derived.Test.YtaikmgnpfbnjjaaGreatDoorPu15
import Derived.Test.YtaikmgnpfbnjjaaGreatDoorPu18
import Derived.Laws.BitsAllLaws
import Derived.IntWalk
namespace Go.Proofs.YtaikmgnpfbnjjaaGreatDoor.Ev
open Go.ChangeShapes Go.WideShapes Go.ChangeAt Go.RowKit Gn Cat Lex
set_option linter.unusedVariables false
set_option linter.unusedSimpArgs false
structure Evt where
  kind : Int
  bidder : Int
  round : Int
  want : Nat → Int
  text : ByteArray
  digest : Nat
abbrev Evt.cells (e : Evt) : List Value := [.int .i64 e.kind, .int .i64 e.bidder, .int .i64 e.round, .int .i64 (e.want 0), .int .i64 (e.want 1), .int .i64 (e.want 2), .int .i64 (e.want 3), .int .i64 (e.want 4), .int .i64 (e.want 5), .string e.text, .int .u64 (e.digest : Int)]
abbrev Evt.val (e : Evt) : Value := .agg #[.int .i64 e.kind, .int .i64 e.bidder, .int .i64 e.round, .int .i64 (e.want 0), .int .i64 (e.want 1), .int .i64 (e.want 2), .int .i64 (e.want 3), .int .i64 (e.want 4), .int .i64 (e.want 5), .string e.text, .int .u64 (e.digest : Int)]
def noEvt : Evt := ⟨0, 0, 0, zero6, ⟨#[]⟩, 0⟩
/-- the same in all that is seen -/
def evEq (a b : Evt) : Bool := a.kind == b.kind && (a.bidder == b.bidder && (a.round == b.round && (eq6 a.want b.want && (eqB a.text b.text && a.digest == b.digest))))
abbrev hasB (k : Int) : Prop := k = 2 ∨ k = 5 ∨ k = 6 ∨ k = 7
abbrev hasT (k : Int) : Prop := k = 1 ∨ k = 5
def bareE (e : Evt) : Evt := ⟨e.kind, if hasB e.kind then e.bidder else 0, if e.kind = 8 then e.round else 0, if e.kind = 2 then e.want else zero6, if hasT e.kind then e.text else ⟨#[]⟩, if e.kind = 10 then e.digest else 0⟩
/-- fields as the program numbers them -/
def fieldsK (k : Int) : Int := if k = 1 then 4 else if k = 2 then 3 else if k = 5 then 5 else if k = 6 ∨ k = 7 then 1 else if k = 8 then 8 else if k = 10 then 16 else 0
def nameK (k : Int) : ByteArray :=
  if k = 1 then ⟨#[115, 97, 108, 101]⟩ else if k = 2 then ⟨#[100, 101, 109, 97, 110, 100]⟩ else if k = 3 then ⟨#[114, 111, 117, 110, 100]⟩ else if k = 4 then ⟨#[115, 116, 111, 112]⟩ else if k = 5 then ⟨#[98, 105, 100]⟩
  else if k = 6 then ⟨#[119, 105, 116, 104, 100, 114, 97, 119]⟩ else if k = 7 then ⟨#[100, 105, 115, 113, 117, 97, 108, 105, 102, 121]⟩ else if k = 8 then ⟨#[114, 101, 114, 117, 110]⟩ else if k = 9 then ⟨#[99, 108, 111, 115, 101]⟩ else if k = 10 then ⟨#[100, 101, 99, 105, 100, 101]⟩ else ⟨#[]⟩
/-- a number in groups of seven bits -/
def uintF : Nat → Nat → List UInt8
  | 0, x => [UInt8.ofNat x]
  | k + 1, x => if x < 128 then [UInt8.ofNat x] else UInt8.ofNat (128 + x % 128) :: uintF k (x / 128)
def uintL (x : Nat) : List UInt8 := uintF 9 x
def textL (s : ByteArray) : List UInt8 := uintL s.size ++ s.data.toList
def codeL (e : Evt) : List UInt8 :=
  uintL e.kind.toNat ++ ((if hasB e.kind then uintL e.bidder.toNat else []) ++ ((if e.kind = 8 then uintL e.round.toNat else []) ++ ((if e.kind = 2 then uintL (e.want 0).toNat ++ (uintL (e.want 1).toNat ++ (uintL (e.want 2).toNat ++ (uintL (e.want 3).toNat ++ (uintL (e.want 4).toNat ++ uintL (e.want 5).toNat)))) else []) ++ ((if hasT e.kind then textL e.text else []) ++ (if e.kind = 10 then uintL e.digest else [])))))
def codeB (e : Evt) : ByteArray := ⟨(codeL e).toArray⟩
def checkV (e : Evt) : Int :=
  if (e.kind < 1 ∨ 10 < e.kind) ∨ evEq e (bareE e) = false then 2
  else if e.bidder < 0 ∨ 8 ≤ e.bidder ∨ e.round < 0 ∨ 30 ≤ e.round ∨ validB e.want = false then 4
  else if 4000 < (codeL e).length then 3
  else 0
def encodeV (e : Evt) : ByteArray × Int := if checkV e ≠ 0 then (⟨#[]⟩, checkV e) else (codeB e, 0)
/-- a reader: what is left, and its error -/
structure Rd where
  l : List UInt8
  e : Int
/-- the digits of a number: place, sum so far -/
def rdGo (most : Nat) (l0 : List UInt8) : List UInt8 → Nat → Nat → Nat × Rd
  | [], _, _ => (0, ⟨l0, 1⟩)
  | b :: l, i, x =>
    if i = 9 ∧ 1 < b.toNat then (0, ⟨l0, 2⟩)
    else if 128 ≤ b.toNat then rdGo most l0 l (i + 1) (x + b.toNat % 128 * 128 ^ i)
    else if b.toNat = 0 ∧ 0 < i then (0, ⟨l0, 2⟩)
    else if most < x + b.toNat % 128 * 128 ^ i then (0, ⟨l0, 4⟩)
    else (x + b.toNat % 128 * 128 ^ i, ⟨l, 0⟩)
def rdU (most : Nat) (r : Rd) : Nat × Rd := if r.e ≠ 0 then (0, r) else rdGo most r.l r.l 0 0
def rdT (most : Nat) (r : Rd) : ByteArray × Rd :=
  if (rdU most r).2.e ≠ 0 then (⟨#[]⟩, (rdU most r).2)
  else if (rdU most r).2.l.length < (rdU most r).1 then (⟨#[]⟩, ⟨(rdU most r).2.l, 1⟩)
  else (⟨((rdU most r).2.l.take (rdU most r).1).toArray⟩, ⟨(rdU most r).2.l.drop (rdU most r).1, 0⟩)
def rdFail (r : Rd) (x : Int) : Rd := if r.e ≠ 0 then r else ⟨r.l, x⟩
def rdEnd (r : Rd) : Int := if r.e = 0 ∧ r.l ≠ [] then 3 else r.e
/-- the numbers of a bundle -/
def rd6 (r : Rd) : (Nat → Int) × Rd :=
  let q0 := rdU 4 r
  let q1 := rdU 4 q0.2
  let q2 := rdU 4 q1.2
  let q3 := rdU 4 q2.2
  let q4 := rdU 4 q3.2
  let q5 := rdU 4 q4.2
  (fun k => if k = 0 then q0.1 else if k = 1 then q1.1 else if k = 2 then q2.1 else if k = 3 then q3.1 else if k = 4 then q4.1 else q5.1, q5.2)
def kindR (s : ByteArray) : Nat × Rd := rdU 10 ⟨s.data.toList, 0⟩
/-- what Decode answers ahead of its last check -/
def decodeR (s : ByteArray) : Evt × Rd :=
  let q := kindR s
  let k : Int := q.1
  let r0 := if k = 0 then rdFail q.2 2 else q.2
  if hasB k then
    let b := rdU 7 r0
    if k = 2 then let v := rd6 b.2; (⟨k, b.1, 0, v.1, ⟨#[]⟩, 0⟩, v.2)
    else if k = 5 then let t := rdT 4000 b.2; (⟨k, b.1, 0, zero6, t.1, 0⟩, t.2)
    else (⟨k, b.1, 0, zero6, ⟨#[]⟩, 0⟩, b.2)
  else if k = 1 then let t := rdT 4000 r0; (⟨k, 0, 0, zero6, t.1, 0⟩, t.2)
  else if k = 8 then let v := rdU 29 r0; (⟨k, 0, v.1, zero6, ⟨#[]⟩, 0⟩, v.2)
  else if k = 10 then let v := rdU 18446744073709551615 r0; (⟨k, 0, 0, zero6, ⟨#[]⟩, v.1⟩, v.2)
  else (⟨k, 0, 0, zero6, ⟨#[]⟩, 0⟩, r0)
def decodeV (s : ByteArray) : Evt × Int :=
  if 4000 < s.size then (noEvt, 3)
  else if rdEnd (decodeR s).2 ≠ 0 then (noEvt, rdEnd (decodeR s).2)
  else ((decodeR s).1, 0)
end Go.Proofs.YtaikmgnpfbnjjaaGreatDoor.Ev
namespace Go.Proofs.YtaikmgnpfbnjjaaGreatDoor.Ev
open Go.ChangeShapes Go.WideShapes Go.ChangeAt Go.RowKit Gn Cat Lex
set_option linter.unusedVariables false
set_option linter.unusedSimpArgs false
theorem uintF_more : ∀ (k x : Nat), x < 128 ^ (k + 1) → uintF (k + 1) x = uintF k x
  | 0, x, h => by
    have h1 : x < 128 := by simpa using h
    show (if x < 128 then [UInt8.ofNat x] else _) = [UInt8.ofNat x]
    rw [if_pos h1]
  | k + 1, x, h => by
    show (if x < 128 then [UInt8.ofNat x] else UInt8.ofNat (128 + x % 128) :: uintF (k + 1) (x / 128)) = (if x < 128 then [UInt8.ofNat x] else UInt8.ofNat (128 + x % 128) :: uintF k (x / 128))
    rw [uintF_more k (x / 128) (by rw [Nat.div_lt_iff_lt_mul (by decide)]; rw [Nat.pow_succ] at h; exact h)]
theorem uintL_small {x : Nat} (h : x < 128) : uintL x = [UInt8.ofNat x] := by
  show (if x < 128 then [UInt8.ofNat x] else _) = _
  rw [if_pos h]
theorem uintL_big {x : Nat} (h : ¬ x < 128) (hx : x < 18446744073709551616) : uintL x = UInt8.ofNat (128 + x % 128) :: uintL (x / 128) := by
  show (if x < 128 then [UInt8.ofNat x] else UInt8.ofNat (128 + x % 128) :: uintF 8 (x / 128)) = _
  rw [if_neg h, ← uintF_more 8 (x / 128) (by have : (128 : Nat) ^ (8 + 1) = 9223372036854775808 := rfl; omega)]
  rfl
theorem uintF_len : ∀ (k x : Nat), (uintF k x).length ≤ k + 1
  | 0, x => Nat.le_refl _
  | k + 1, x => by
    show (if x < 128 then [UInt8.ofNat x] else UInt8.ofNat (128 + x % 128) :: uintF k (x / 128)).length ≤ _
    have := uintF_len k (x / 128)
    split <;> simp
    omega
theorem uintL_len (x : Nat) : (uintL x).length ≤ 10 := uintF_len 9 x
def uintB (x : Nat) : ByteArray := ⟨(uintL x).toArray⟩
theorem uintB_size (x : Nat) : (uintB x).size ≤ 10 := by
  show ((uintL x).toArray).size ≤ 10
  rw [List.size_toArray]
  exact uintL_len x
def u8s (l : List UInt8) : List Value := l.map fun b => Value.int .u8 (b.toNat : Int)
theorem u8s_app (l k : List UInt8) : u8s (l ++ k) = u8s l ++ u8s k := by simp [u8s]
theorem or128N : ∀ x : Fin 256, x.val ||| 128 = 128 + x.val % 128 := by decide +kernel
theorem or128 (x : Nat) (v : Int) (hv : v = ((x % 256 : Nat) : Int)) : bits .or .u8 v 128 = (((UInt8.ofNat (128 + x % 128)).toNat : Nat) : Int) := by
  have h := or128N ⟨x % 256, Nat.mod_lt _ (by decide)⟩
  rw [hv, show (128 : Int) = ((128 : Nat) : Int) from rfl, u8_or_nat _ 128 (Nat.mod_lt _ (by decide)) (by decide)]
  rw [h]
  have : x % 256 % 128 = x % 128 := Nat.mod_mod_of_dvd x (by decide)
  show ((128 + x % 256 % 128 : Nat) : Int) = (((128 + x % 128) % 256 : Nat) : Int)
  rw [this]
  omega
theorem rdGo_nil {most : Nat} {l0 : List UInt8} (i x : Nat) : rdGo most l0 [] i x = (0, ⟨l0, 1⟩) := rfl
theorem rdGo_cons {most : Nat} {l0 : List UInt8} (b : UInt8) (l : List UInt8) (i x : Nat) : rdGo most l0 (b :: l) i x =
    if i = 9 ∧ 1 < b.toNat then (0, ⟨l0, 2⟩)
    else if 128 ≤ b.toNat then rdGo most l0 l (i + 1) (x + b.toNat % 128 * 128 ^ i)
    else if b.toNat = 0 ∧ 0 < i then (0, ⟨l0, 2⟩)
    else if most < x + b.toNat % 128 * 128 ^ i then (0, ⟨l0, 4⟩)
    else (x + b.toNat % 128 * 128 ^ i, ⟨l, 0⟩) := rfl
/-- a group of seven bits above those that are read -/
theorem group_or {y d : Nat} (i : Nat) (h : y < 128 ^ i) : y ||| (d * 128 ^ i) = y + d * 128 ^ i := by
  have e : (128 : Nat) ^ i = 2 ^ (7 * i) := by rw [Nat.pow_mul]
  rw [e] at h ⊢
  rw [Nat.or_comm, ← Nat.shiftLeft_eq, Nat.add_comm, Nat.shiftLeft_add_eq_or_of_lt h]
theorem group_lt {y d : Nat} (i : Nat) (h : y < 128 ^ i) (hd : d < 128) : y + d * 128 ^ i < 128 ^ (i + 1) := by
  rw [Nat.pow_succ]
  have : d * 128 ^ i ≤ 127 * 128 ^ i := Nat.mul_le_mul_right _ (by omega)
  omega
theorem pow_nine {i : Nat} (h : i ≤ 9) : 128 ^ i ≤ 9223372036854775808 := Nat.pow_le_pow_right (n := 128) (by decide) h
theorem group_small {b k : Nat} (hk : k ≤ 9) (h9 : k = 9 → b ≤ 1) : b % 128 * 128 ^ k < 18446744073709551616 := by
  rcases Nat.lt_or_eq_of_le hk with h | h
  · have h1 : (128 : Nat) ^ k ≤ 128 ^ 8 := Nat.pow_le_pow_right (by decide) (by omega)
    have h2 : b % 128 * 128 ^ k ≤ 127 * 128 ^ 8 := Nat.mul_le_mul (by omega) h1
    have h3 : (127 : Nat) * 128 ^ 8 = 9151314442816847872 := by decide
    omega
  · have h1 := h9 h
    subst h
    have h2 : b % 128 * 128 ^ 9 ≤ 1 * 128 ^ 9 := Nat.mul_le_mul (by omega) (Nat.le_refl _)
    have h3 : (1 : Nat) * 128 ^ 9 = 9223372036854775808 := by decide
    omega
theorem pow_int (k : Nat) : (2 : Int) ^ (7 * k) = ((128 ^ k : Nat) : Int) := by
  rw [Int.pow_mul]
  simp
theorem group_val {y b k : Nat} (hb : b < 256) (hy : y < 128 ^ k) (hk : k ≤ 9) (h9 : k = 9 → b ≤ 1) :
    bits .or .u64 (y : Int) (IntKind.u64.wrap (IntKind.u64.wrap (bits .and .u8 (b : Int) 127) * 2 ^ (7 * k))) = ((y + b % 128 * 128 ^ k : Nat) : Int) := by
  have e1 : bits .and .u8 (b : Int) 127 = ((b % 128 : Nat) : Int) := by
    rw [show (127 : Int) = ((127 : Nat) : Int) from rfl, u8_and_nat b 127 hb (by decide), show (127 : Nat) = 2 ^ 7 - 1 from rfl, Nat.and_two_pow_sub_one_eq_mod]
  have h1 := group_small (b := b) hk h9
  have h2 := pow_nine hk
  have h3 : b % 128 < 128 := Nat.mod_lt _ (by decide)
  rw [e1, IntWalk.u64_in ((b % 128 : Nat) : Int) ⟨by omega, by omega⟩, pow_int, ← Int.natCast_mul]
  rw [IntWalk.u64_in ((b % 128 * 128 ^ k : Nat) : Int) ⟨by omega, by omega⟩, u64_or_nat y _ (by omega) h1, group_or k hy]
end Go.Proofs.YtaikmgnpfbnjjaaGreatDoor.Ev
namespace Go.Proofs.YtaikmgnpfbnjjaaGreatDoor.Ev
open Go.ChangeShapes Go.WideShapes Go.ChangeAt Go.RowKit Gn Cat Lex
set_option linter.unusedVariables false
set_option linter.unusedSimpArgs false
abbrev StrPost (s : ByteArray) (w : World) (e : Ending) (w' : World) : Prop := e = .returned (.string s) ∧ Below w.heap.size w w'
theorem u8_info : (Tryz.prog.info? 5).map (fun i => (i.zero, i.size, i.bytes)) = some (some (.int .u8 0), 1, 1) := by kernel_rfl
/-- bytes in memory, read back as a string -/
theorem back_cells (w : World) (b n c : Nat) (l : List UInt8) (hn : n = l.length) (h : ∀ (j : Nat) u, (u8s l)[j]? = some u → w.cell? ((⟨b, 0, none⟩ : Addr).add j) = some u) :
    (convert 106 9 (.slice (some ⟨b, 0, none⟩) n c)).run Tryz.prog w = .ok (.string ⟨l.toArray⟩) w := by
  subst hn
  refine run_convert_bytes_back (P := Tryz.prog) w 106 9 5 ⟨b, 0, none⟩ c l (by kernel_rfl) (by kernel_rfl) (by kernel_rfl) ?_
  intro j hj
  exact h j _ (by simp [u8s, hj])
theorem back_own {w : World} {base : Nat} {A : Option Addr} {n c : Nat} {l : List UInt8} (h : w.ownsRow base 5 1 (.slice A n c) n (u8s l)) (hn : n = l.length) (h0 : 0 < n) :
    (convert 106 9 (.slice A n c)).run Tryz.prog w = .ok (.string ⟨l.toArray⟩) w := by
  have h2 := h.2
  rcases h2 with ⟨_, e⟩ | ⟨g, cap, cur, e, _⟩
  · exact absurd e (Nat.pos_iff_ne_zero.1 h0)
  · have e1 := (Value.slice.inj e).1
    subst e1
    exact back_cells w g n c l hn fun j u hu => h.cells (g := g) rfl j u hu
theorem uint_one (x : Nat) (h : x < 128) : (x : Int) = ((UInt8.ofNat x).toNat : Int) := by
  show (x : Int) = ((x % 256 : Nat) : Int)
  omega
set_option maxHeartbeats 1000000 in
set_option maxRecDepth 100000 in
theorem uint_any (x : Nat) (w : World) (hx : x < 18446744073709551616) : Calls Tryz.prog 66 #[.int .u64 (x : Int)] w (StrPost (uintB x) w) := by
  obtain ⟨j0, hj0, hy0, hy1, hy2⟩ := info_parts u8_info
  have HX := Lib.hid hx
  have HS := Lib.hid (uintL_len x)
  unfold uintB
  obtain ⟨L, hL⟩ : ∃ L, L = uintL x := ⟨_, rfl⟩
  have HL := Lib.hid hL
  rw [← hL] at HS ⊢
  clear hL
  clear hx
  go_enter Tryz.func66, Tryz.ntmps66
  go_wp2_with fail
  go_loopw [0, 3] (fun xv ov wr => ∃ (y k : Nat) (pre : List UInt8) (A : Option Addr) (c : Nat), Hid (y < 18446744073709551616) ∧ xv = .int .u64 (y : Int) ∧ ov = .slice A k c ∧ Hid (k = pre.length) ∧ Hid (L = pre ++ uintL y) ∧ Hid (wr.ownsRow w.heap.size 5 1 (.slice A k c) k (u8s pre)) ∧ Hid (Below w.heap.size w wr)) (fun xv _ _ => (intOf xv).toNat)
  case atStart => exact ⟨x, 0, [], none, 0, HX.out, rfl, rfl, rfl, HL.out, ⟨rfl, .inl ⟨rfl, rfl⟩⟩, Below.refl _ _⟩
  case round =>
    obtain ⟨y, k, pre, A, c, HY, rfl, rfl, HK, HP, HO, HB⟩ := hrel
    by_cases hb : y < 128
    · have hd : decide ((128 : Int) ≤ (y : Int)) = false := decide_eq_false (by omega)
      have HE := Lib.hid (HP.out.trans (by rw [uintL_small hb]))
      have HU := Lib.hid (uint_one y hb)
      have HM : Hid (k ≤ 10) := by
        show k ≤ 10
        have h1 := congrArg List.length HP.out
        have h2 := HS.out
        have h3 := HK.out
        rw [List.length_append] at h1
        omega
      go_wp2_with (at_builtin; refine wpList_append_own _ rfl _ _ 106 rfl w.heap.size 5 j0 _ 1 1 Tryz.underlying106 hj0 hy0 hy1 hy2 rfl (by decide) (.slice A k c) k _ rfl (HO.out.alloc _) ⟨wr.heap.size, 0, none⟩ 1 1 [.int .u8 (y : Int)] rfl rfl (cells_new wr _ _) (by intro u hu; simp at hu; subst hu; rfl) (by have := HM.out; unfold maxLen; omega) (by have := HM.out; omega) (by have := HB.out.size; simp; omega) ?_)
      intro v' w4 hown hgr _
      obtain ⟨A5, c5, rfl⟩ := Gn.own_form hown
      rw [HU.out] at hown
      have hcv := back_own (l := pre ++ [UInt8.ofNat y]) (by rw [u8s_app]; exact hown) (by have := HK.out; simp; omega) (by omega)
      have B5 : Hid (Below w.heap.size w w4) := (HB.out.alloc HB.out.size _).grown hgr (by have := HB.out.size; simp; omega) (fun q hq => (HO.out.lt q hq).1)
      clear hown hgr HO HB
      rw [← HE.out] at hcv
      go_wp2_with fail
      go_ret
      exact ⟨rfl, B5.out⟩
    · have hd : decide ((128 : Int) ≤ (y : Int)) = true := decide_eq_true (by omega)
      have HE := Lib.hid (HP.out.trans (by rw [uintL_big hb HY.out]))
      have HU := Lib.hid (or128 y ((y : Int) % 256) (by omega))
      have HQ : Hid ((y : Int) / 128 = ((y / 128 : Nat) : Int)) := by show _ = _; omega
      have HM : Hid (k ≤ 10) := by
        show k ≤ 10
        have h1 := congrArg List.length HP.out
        have h2 := HS.out
        have h3 := HK.out
        rw [List.length_append] at h1
        omega
      go_wp2_with (at_builtin; refine wpList_append_own _ rfl _ _ 106 rfl w.heap.size 5 j0 _ 1 1 Tryz.underlying106 hj0 hy0 hy1 hy2 rfl (by decide) (.slice A k c) k _ rfl (HO.out.alloc _) ⟨wr.heap.size, 0, none⟩ 1 1 [.int .u8 (bits .or .u8 ((y : Int) % 256) 128)] rfl rfl (cells_new wr _ _) (by intro u hu; simp at hu; subst hu; rfl) (by have := HM.out; unfold maxLen; omega) (by have := HM.out; omega) (by have := HB.out.size; simp; omega) ?_)
      intro v' w4 hown hgr _
      obtain ⟨A5, c5, rfl⟩ := Gn.own_form hown
      rw [HU.out] at hown
      have O5 : Hid (w4.ownsRow w.heap.size 5 1 (.slice A5 (k + 1) c5) (k + 1) (u8s (pre ++ [UInt8.ofNat (128 + y % 128)]))) := by show World.ownsRow _ _ _ _ _ _ _; rw [u8s_app]; exact hown
      have B5 : Hid (Below w.heap.size w w4) := (HB.out.alloc HB.out.size _).grown hgr (by have := HB.out.size; simp; omega) (fun q hq => (HO.out.lt q hq).1)
      clear hown hgr HO HB
      go_wp2_with fail
      go_roundw
      case rel => exact ⟨y / 128, k + 1, pre ++ [UInt8.ofNat (128 + y % 128)], A5, c5, by show _ < _; have := HY.out; omega, by first | rw [HQ.out] | exact congrArg (Value.int .u64) HQ.out, rfl, by show _ = _; have := HK.out; simp; omega, by show _ = _; rw [HE.out]; simp, O5.out, B5.out⟩
      case measure => simp [intOf]; omega
theorem add_s (a b : ByteArray) (h : a.size + b.size ≤ 100000) (W : World) : (Op.stringOp .add a b).run Tryz.prog W = .ok (.string (a ++ b)) W := run_string_add_sum W _ _ (by omega)
theorem ruint_one (b : Int) (c : UInt8) (w : World) (h : b = (c.toNat : Int)) : (convert 106 9 (.slice (some ⟨w.heap.size, 0, none⟩) 1 1)).run Tryz.prog (w.alloc (.cells #[.int .u8 b] 5)) = .ok (.string ⟨#[c]⟩) (w.alloc (.cells #[.int .u8 b] 5)) := by
  subst h
  refine back_cells _ _ 1 1 [c] rfl fun j u hu => ?_
  rw [OpenAdd.add_at, Nat.zero_add, (Blk.new w 5 _).cell]
  simpa [u8s] using hu
end Go.Proofs.YtaikmgnpfbnjjaaGreatDoor.Ev
namespace Go.Proofs.YtaikmgnpfbnjjaaGreatDoor.Ev
open Go.ChangeShapes Go.WideShapes Go.ChangeAt Go.RowKit Gn Cat Lex
set_option linter.unusedVariables false
set_option linter.unusedSimpArgs false
abbrev cells11 (k b r : Int) (p : Nat → Int) (t : ByteArray) (d : Nat) : Array Value := #[.int .i64 k, .int .i64 b, .int .i64 r, .int .i64 (p 0), .int .i64 (p 1), .int .i64 (p 2), .int .i64 (p 3), .int .i64 (p 4), .int .i64 (p 5), .string t, .int .u64 (d : Int)]
theorem put_all {w : World} {x : Nat} {t : TypeId} {a0 a1 a2 a3 a4 a5 a6 a7 a8 a9 a10 : Value} (h : Blk w x t #[a0, a1, a2, a3, a4, a5, a6, a7, a8, a9, a10]) (b0 b1 b2 b3 b4 b5 b6 b7 b8 b9 b10 : Value) : Blk (((((((((((w.setCell ⟨x, 0, none⟩ b0).setCell ⟨x, 1, none⟩ b1).setCell ⟨x, 2, none⟩ b2).setCell ⟨x, 3, none⟩ b3).setCell ⟨x, 4, none⟩ b4).setCell ⟨x, 5, none⟩ b5).setCell ⟨x, 6, none⟩ b6).setCell ⟨x, 7, none⟩ b7).setCell ⟨x, 8, none⟩ b8).setCell ⟨x, 9, none⟩ b9).setCell ⟨x, 10, none⟩ b10) x t #[b0, b1, b2, b3, b4, b5, b6, b7, b8, b9, b10] := by
  have := (((((((((((h.put 0 b0).put 1 b1).put 2 b2).put 3 b3).put 4 b4).put 5 b5).put 6 b6).put 7 b7).put 8 b8).put 9 b9).put 10 b10)
  simpa using this
theorem below_all {m : Nat} {w wx : World} {x : Nat} (h : Below m w wx) (hx : m ≤ x) (b0 b1 b2 b3 b4 b5 b6 b7 b8 b9 b10 : Value) : Below m w (((((((((((wx.setCell ⟨x, 0, none⟩ b0).setCell ⟨x, 1, none⟩ b1).setCell ⟨x, 2, none⟩ b2).setCell ⟨x, 3, none⟩ b3).setCell ⟨x, 4, none⟩ b4).setCell ⟨x, 5, none⟩ b5).setCell ⟨x, 6, none⟩ b6).setCell ⟨x, 7, none⟩ b7).setCell ⟨x, 8, none⟩ b8).setCell ⟨x, 9, none⟩ b9).setCell ⟨x, 10, none⟩ b10) :=
  ((((((((((h.setCell (p := ⟨x, 0, none⟩) hx b0).setCell (p := ⟨x, 1, none⟩) hx b1).setCell (p := ⟨x, 2, none⟩) hx b2).setCell (p := ⟨x, 3, none⟩) hx b3).setCell (p := ⟨x, 4, none⟩) hx b4).setCell (p := ⟨x, 5, none⟩) hx b5).setCell (p := ⟨x, 6, none⟩) hx b6).setCell (p := ⟨x, 7, none⟩) hx b7).setCell (p := ⟨x, 8, none⟩) hx b8).setCell (p := ⟨x, 9, none⟩) hx b9).setCell (p := ⟨x, 10, none⟩) hx b10
/-- what the cells of a block of eleven cells are: facts for a walk -/
theorem Blk11 {w : World} {g : Nat} {t : TypeId} {a0 a1 a2 a3 a4 a5 a6 a7 a8 a9 a10 : Value} (h : Blk w g t #[a0, a1, a2, a3, a4, a5, a6, a7, a8, a9, a10]) :
    (w.cell? ⟨g, 0, none⟩ = some a0 ∧ w.frozen? ⟨g, 0, none⟩ = false) ∧ (w.cell? ⟨g, 1, none⟩ = some a1 ∧ w.frozen? ⟨g, 1, none⟩ = false) ∧ (w.cell? ⟨g, 2, none⟩ = some a2 ∧ w.frozen? ⟨g, 2, none⟩ = false) ∧ (w.cell? ⟨g, 3, none⟩ = some a3 ∧ w.frozen? ⟨g, 3, none⟩ = false) ∧ (w.cell? ⟨g, 4, none⟩ = some a4 ∧ w.frozen? ⟨g, 4, none⟩ = false) ∧ (w.cell? ⟨g, 5, none⟩ = some a5 ∧ w.frozen? ⟨g, 5, none⟩ = false) ∧ (w.cell? ⟨g, 6, none⟩ = some a6 ∧ w.frozen? ⟨g, 6, none⟩ = false) ∧ (w.cell? ⟨g, 7, none⟩ = some a7 ∧ w.frozen? ⟨g, 7, none⟩ = false) ∧ (w.cell? ⟨g, 8, none⟩ = some a8 ∧ w.frozen? ⟨g, 8, none⟩ = false) ∧ (w.cell? ⟨g, 9, none⟩ = some a9 ∧ w.frozen? ⟨g, 9, none⟩ = false) ∧ (w.cell? ⟨g, 10, none⟩ = some a10 ∧ w.frozen? ⟨g, 10, none⟩ = false) :=
  ⟨⟨h.cell 0, h.free 0⟩, ⟨h.cell 1, h.free 1⟩, ⟨h.cell 2, h.free 2⟩, ⟨h.cell 3, h.free 3⟩, ⟨h.cell 4, h.free 4⟩, ⟨h.cell 5, h.free 5⟩, ⟨h.cell 6, h.free 6⟩, ⟨h.cell 7, h.free 7⟩, ⟨h.cell 8, h.free 8⟩, ⟨h.cell 9, h.free 9⟩, ⟨h.cell 10, h.free 10⟩⟩
/-- the middle one of three new blocks -/
theorem blk_mid (w : World) (t : TypeId) (a b c : Array Value) : Blk (((w.alloc (.cells a t)).alloc (.cells b t)).alloc (.cells c t)) (w.heap.size + 1) t b := by
  have h := Blk.new (w.alloc (.cells a t)) t b
  rw [World.size_alloc] at h
  exact h.alloc _
theorem below_three (w : World) (x y z : Obj) : Below w.heap.size w (((w.alloc x).alloc y).alloc z) :=
  ((below_new w x).alloc (below_new w x).size y).alloc ((below_new w x).alloc (below_new w x).size y).size z
/-- how the kinds' fields lie -/
theorem fields_none {k : Int} (h : ¬ k = 1 ∧ ¬ k = 2 ∧ ¬ k = 5 ∧ ¬ k = 6 ∧ ¬ k = 7 ∧ ¬ k = 8 ∧ ¬ k = 10) : fieldsK k = 0 := by
  obtain ⟨h1, h2, h5, h6, h7, h8, h10⟩ := h
  unfold fieldsK
  rw [if_neg h1, if_neg h2, if_neg h5, if_neg (by omega), if_neg h8, if_neg h10]
theorem kind_cases (k : Int) : k = 1 ∨ k = 2 ∨ k = 5 ∨ (k = 6 ∨ k = 7) ∨ k = 8 ∨ k = 10 ∨ (¬ k = 1 ∧ ¬ k = 2 ∧ ¬ k = 5 ∧ ¬ k = 6 ∧ ¬ k = 7 ∧ ¬ k = 8 ∧ ¬ k = 10) := by omega
end Go.Proofs.YtaikmgnpfbnjjaaGreatDoor.Ev
