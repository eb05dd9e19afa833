/- Plain laws on worlds, over any program: a region that draws its order and whose calls make memory, walked once in the order of the text. Plain lists: what the lexer computes. Contracts of the lexer's small functions. Printed by gen_lex1.py. Contracts of number, mark, ContainsRune. Contracts of the searches for a byte and a rune in a string. Contract of strings.ContainsRune on the marks, and of the reference's mark. Contract of the reference's mark. Printed by gen_lex5.py. Contract of one. Contract of one: numbers. -/
import Derived.WalkKit
import Derived.ProofKit
import Derived.OpenShut
import Derived.Handy
import Derived.BigQuiet
import Derived.Lib.Hide
import Derived.Test.YtaikmgnpfbnjjaaGreatDoorRows
import Derived.Laws.Externs
import Derived.Laws.Runes
import Derived.Lib.Bytealg
import Derived.Laws.Rows
namespace Go.Proofs.YtaikmgnpfbnjjaaGreatDoor
open Go.ChangeShapes Go.WideShapes Go.ChangeAt Go.RowKit

/-- some world that is as w below w's end -/
noncomputable def later (w x : World) : World := @ite _ (Below w.heap.size w x) (Classical.propDecidable _) x w
theorem later_below (w x : World) : Below w.heap.size w (later w x) := by
  unfold later
  split
  · assumption
  · exact Below.refl _ _
theorem later_of {w x : World} (h : Below w.heap.size w x) : later w x = x := by
  unfold later
  rw [if_pos h]
theorem later_cell {w x : World} {a : Addr} {v : Value} (h : w.cell? a = some v) : (later w x).cell? a = some v :=
  ((later_below w x).cell (p := a) (block_lt_of_cell h)).trans h
theorem chain0 {w a c : World} (h : Below w.heap.size w a) (k : Below a.heap.size a c) : Below w.heap.size w c := h.trans (k.mono h.size)
theorem chain1 {w a c : World} {o : Obj} (h : Below w.heap.size w a) (k : Below (a.alloc o).heap.size (a.alloc o) c) : Below w.heap.size w c :=
  chain0 (h.alloc h.size o) k
theorem chain2 {w a c : World} {o o' : Obj} (h : Below w.heap.size w a) (k : Below ((a.alloc o).alloc o').heap.size ((a.alloc o).alloc o') c) : Below w.heap.size w c :=
  chain1 (h.alloc h.size o) k
theorem below_new (w : World) (o : Obj) : Below w.heap.size w (w.alloc o) := (Below.refl _ _).alloc (Nat.le_refl _) o

section
variable {P : Program}
theorem wp_region_later {id : Nat} {Q : Exit → Act → World → Prop} {a : Act} {w : World} {l : List Oper} (hm : P.follows .mixedOrders = true) (hB : Region.lexB .any l.toArray = true)
    (h : wpQuiet P l.toArray (fun w' => ∃ x, w' = later w x) (fun a' => ∀ w', (∃ x, w' = later w x) → Q .normal a' w') l a) : (Code.region id l.toArray true).wp P Q a w :=
  wp_region_quiet (C := fun w' => ∃ x, w' = later w x) hm hB ⟨w.drew, (later_of ((Below.refl _ _).drew)).symm⟩ (by simpa using h)
theorem calls_later {f : FuncId} {args : Array Value} {w x : World} {v : Value}
    (h : Calls P f args (later w x) fun e w' => e = .returned v ∧ Below (later w x).heap.size (later w x) w') :
    Calls P f args (later w x) fun e w'' => e = .returned v ∧ ∃ y, w'' = later w y :=
  h.mono fun _ w' ⟨he, hb⟩ => ⟨he, w', (later_of ((later_below w x).trans (hb.mono (later_below w x).size))).symm⟩
end
end Go.Proofs.YtaikmgnpfbnjjaaGreatDoor
namespace Go.Proofs.YtaikmgnpfbnjjaaGreatDoor
namespace Lex
def isLet (b : UInt8) : Bool := decide (97 ≤ b.toNat) && decide (b.toNat ≤ 122)
def isDig (b : UInt8) : Bool := decide (48 ≤ b.toNat) && decide (b.toNat ≤ 57)
def isInn (b : UInt8) : Bool := isLet b || (isDig b || decide (b.toNat = 95))
def isMark (b : UInt8) : Bool := decide (b.toNat ∈ [123, 125, 40, 41, 44, 58, 64, 43, 45, 61])
/-- how many bytes at the beginning belong together -/
def span (p : UInt8 → Bool) : List UInt8 → Nat
  | [] => 0
  | b :: l => if p b then span p l + 1 else 0
theorem span_le (p : UInt8 → Bool) : ∀ l, span p l ≤ l.length
  | [] => Nat.le_refl _
  | b :: l => by
    unfold span
    split
    · have := span_le p l; simp; omega
    · simp
theorem span_cons {p : UInt8 → Bool} {b : UInt8} {l : List UInt8} (h : p b = true) : span p (b :: l) = span p l + 1 := by simp [span, h]
theorem span_stop {p : UInt8 → Bool} {b : UInt8} {l : List UInt8} (h : p b = false) : span p (b :: l) = 0 := by simp [span, h]
/-- the value of digits -/
def val (l : List UInt8) : Nat := l.foldl (fun v b => v * 10 + (b.toNat - 48)) 0
theorem val_snoc (l : List UInt8) (b : UInt8) : val (l ++ [b]) = val l * 10 + (b.toNat - 48) := by simp [val]
/-- a token without its text: kind, length, value; or an error -/
structure Piece where
  kind : Nat
  len : Nat
  value : Nat
def one : List UInt8 → Except Int Piece
  | [] => .error 2
  | b :: l =>
    if isLet b then (if 12 < span isInn l + 1 then .error 3 else .ok ⟨1, span isInn l + 1, 0⟩)
    else if isDig b then
      (if 1 < span isDig l + 1 ∧ b.toNat = 48 then .error 2
       else if 9 < span isDig l + 1 then .error 4
       else .ok ⟨2, span isDig l + 1, val ((b :: l).take (span isDig l + 1))⟩)
    else if isMark b then .ok ⟨3, 1, 0⟩
    else .error 2
theorem one_len {l : List UInt8} {p : Piece} (h : one l = .ok p) : 1 ≤ p.len ∧ p.len ≤ l.length := by
  cases l with
  | nil => cases h
  | cons b l =>
    have h1 := span_le isInn l
    have h2 := span_le isDig l
    simp only [one] at h
    repeat' split at h
    all_goals first
      | (cases h; done)
      | (injection h with h; subst h; simp; omega)
      | (injection h with h; subst h; simp)
end Lex
end Go.Proofs.YtaikmgnpfbnjjaaGreatDoor
namespace Go.Proofs.YtaikmgnpfbnjjaaGreatDoor
open Go.ChangeShapes Go.WideShapes Go.ChangeAt Go.RowKit
namespace Lex

theorem letter_any (b : UInt8) (w : World) : Calls Tryz.prog 121 #[.int .i32 (b.toNat : Int)] w fun e w' => e = .returned (.bool (isLet b)) ∧ w = w' := by
  have hb := b.toNat_lt
  unfold isLet
  by_cases h1 : 97 ≤ b.toNat
  · have c1 : decide ((97 : Int) ≤ (b.toNat : Int)) = true := by simp; omega
    by_cases h2 : b.toNat ≤ 122
    · have c2 : decide ((b.toNat : Int) ≤ 122) = true := by simp; omega
      go_enter Tryz.func121, Tryz.ntmps121
      go_wp2
      go_ret
      exact ⟨by simp [h1, h2], rfl⟩
    · have c2 : decide ((b.toNat : Int) ≤ 122) = false := by simp; omega
      go_enter Tryz.func121, Tryz.ntmps121
      go_wp2
      go_ret
      exact ⟨by simp [h1, h2], rfl⟩
  · have c1 : decide ((97 : Int) ≤ (b.toNat : Int)) = false := by simp; omega
    go_enter Tryz.func121, Tryz.ntmps121
    go_wp2
    go_ret
    exact ⟨by simp [h1], rfl⟩

theorem digit_any (b : UInt8) (w : World) : Calls Tryz.prog 141 #[.int .i32 (b.toNat : Int)] w fun e w' => e = .returned (.bool (isDig b)) ∧ w = w' := by
  have hb := b.toNat_lt
  unfold isDig
  by_cases h1 : 48 ≤ b.toNat
  · have c1 : decide ((48 : Int) ≤ (b.toNat : Int)) = true := by simp; omega
    by_cases h2 : b.toNat ≤ 57
    · have c2 : decide ((b.toNat : Int) ≤ 57) = true := by simp; omega
      go_enter Tryz.func141, Tryz.ntmps141
      go_wp2
      go_ret
      exact ⟨by simp [h1, h2], rfl⟩
    · have c2 : decide ((b.toNat : Int) ≤ 57) = false := by simp; omega
      go_enter Tryz.func141, Tryz.ntmps141
      go_wp2
      go_ret
      exact ⟨by simp [h1, h2], rfl⟩
  · have c1 : decide ((48 : Int) ≤ (b.toNat : Int)) = false := by simp; omega
    go_enter Tryz.func141, Tryz.ntmps141
    go_wp2
    go_ret
    exact ⟨by simp [h1], rfl⟩

theorem rletter_any (b : UInt8) (w : World) : Calls Tryz.prog 120 #[.int .u8 (b.toNat : Int)] w fun e w' => e = .returned (.bool (isLet b)) ∧ w = w' := by
  have hb := b.toNat_lt
  unfold isLet
  by_cases h1 : 97 ≤ b.toNat
  · have c1 : decide ((97 : Int) ≤ (b.toNat : Int)) = true := by simp; omega
    by_cases h2 : b.toNat ≤ 122
    · have c2 : decide ((b.toNat : Int) ≤ 122) = true := by simp; omega
      go_enter Tryz.func120, Tryz.ntmps120
      go_wp2
      go_ret
      exact ⟨by simp [h1, h2], rfl⟩
    · have c2 : decide ((b.toNat : Int) ≤ 122) = false := by simp; omega
      go_enter Tryz.func120, Tryz.ntmps120
      go_wp2
      go_ret
      exact ⟨by simp [h1, h2], rfl⟩
  · have c1 : decide ((97 : Int) ≤ (b.toNat : Int)) = false := by simp; omega
    go_enter Tryz.func120, Tryz.ntmps120
    go_wp2
    go_ret
    exact ⟨by simp [h1], rfl⟩

theorem rdigit_any (b : UInt8) (w : World) : Calls Tryz.prog 139 #[.int .u8 (b.toNat : Int)] w fun e w' => e = .returned (.bool (isDig b)) ∧ w = w' := by
  have hb := b.toNat_lt
  unfold isDig
  by_cases h1 : 48 ≤ b.toNat
  · have c1 : decide ((48 : Int) ≤ (b.toNat : Int)) = true := by simp; omega
    by_cases h2 : b.toNat ≤ 57
    · have c2 : decide ((b.toNat : Int) ≤ 57) = true := by simp; omega
      go_enter Tryz.func139, Tryz.ntmps139
      go_wp2
      go_ret
      exact ⟨by simp [h1, h2], rfl⟩
    · have c2 : decide ((b.toNat : Int) ≤ 57) = false := by simp; omega
      go_enter Tryz.func139, Tryz.ntmps139
      go_wp2
      go_ret
      exact ⟨by simp [h1, h2], rfl⟩
  · have c1 : decide ((48 : Int) ≤ (b.toNat : Int)) = false := by simp; omega
    go_enter Tryz.func139, Tryz.ntmps139
    go_wp2
    go_ret
    exact ⟨by simp [h1], rfl⟩

theorem inner_any (b : UInt8) (w : World) : Calls Tryz.prog 123 #[.int .i32 (b.toNat : Int)] w fun e w' => e = .returned (.bool (isInn b)) ∧ w = w' := by
  have hb := b.toNat_lt
  have CL := Lib.hid (letter_any b)
  have CD := Lib.hid (digit_any b)
  unfold isInn
  cases hl : isLet b with
  | true =>
    go_enter Tryz.func123, Tryz.ntmps123
    go_wp2_with (go_at_call 121; refine (CL.out _).mono ?_; rintro e w' ⟨rfl, rfl⟩; rw [hl])
    go_ret
    exact ⟨rfl, rfl⟩
  | false =>
    cases hd : isDig b with
    | true =>
      go_enter Tryz.func123, Tryz.ntmps123
      go_wp2_with (first | (go_at_call 121; refine (CL.out _).mono ?_; rintro e w' ⟨rfl, rfl⟩; rw [hl]) | (go_at_call 141; refine (CD.out _).mono ?_; rintro e w' ⟨rfl, rfl⟩; rw [hd]))
      go_ret
      exact ⟨rfl, rfl⟩
    | false =>
      have c1 : ((b.toNat : Int) == 95) = decide (b.toNat = 95) := by
        by_cases h : b.toNat = 95
        · simp [h]
        · simp [h]; omega
      go_enter Tryz.func123, Tryz.ntmps123
      go_wp2_with (first | (go_at_call 121; refine (CL.out _).mono ?_; rintro e w' ⟨rfl, rfl⟩; rw [hl]) | (go_at_call 141; refine (CD.out _).mono ?_; rintro e w' ⟨rfl, rfl⟩; rw [hd]))
      go_ret
      exact ⟨by simp, rfl⟩

theorem wrap32_byte (b : UInt8) : wrap32 (b.toNat : Int) = (b.toNat : Int) := by
  have := b.toNat_lt
  unfold wrap32
  omega
/-- the bytes of s from at on that belong together -/
def runLen (p : UInt8 → Bool) (s : ByteArray) (at0 : Nat) : Nat := span p (s.data.toList.drop at0)
theorem runLen_le (p : UInt8 → Bool) (s : ByteArray) (at0 : Nat) (h : at0 ≤ s.size) : at0 + runLen p s at0 ≤ s.size := by
  have := span_le p (s.data.toList.drop at0)
  unfold runLen
  rw [List.length_drop] at this
  have h2 : s.data.toList.length = s.size := rfl
  omega
theorem drop_cons (s : ByteArray) (k : Nat) (h : k < s.size) : s.data.toList.drop k = s[k] :: s.data.toList.drop (k + 1) := by
  rw [List.drop_eq_getElem_cons (by exact h)]; rfl
theorem runLen_yes (p : UInt8 → Bool) (s : ByteArray) (k : Nat) (h : k < s.size) (hp : p s[k] = true) : runLen p s k = runLen p s (k + 1) + 1 := by
  unfold runLen; rw [drop_cons s k h, span_cons hp]
theorem runLen_no (p : UInt8 → Bool) (s : ByteArray) (k : Nat) (h : k < s.size) (hp : p s[k] = false) : runLen p s k = 0 := by
  unfold runLen; rw [drop_cons s k h, span_stop hp]
theorem runLen_end (p : UInt8 → Bool) (s : ByteArray) (k : Nat) (h : s.size ≤ k) : runLen p s k = 0 := by
  unfold runLen; rw [List.drop_eq_nil_of_le (by exact h)]; rfl


theorem run_inner (s : ByteArray) (a : Nat) (w : World) (hs : s.size ≤ maxLen) (ha : a ≤ s.size) :
    Calls Tryz.prog 122 #[.string s, .int .i64 (a : Int), .func (.func 123) #[] #[]] w fun e w' => e = .returned (.string (s.extract a (a + runLen isInn s a))) ∧ w = w' := by
  unfold maxLen at hs
  have CT := Lib.hid inner_any
  have WB := Lib.hid wrap32_byte
  have RY := Lib.hid (runLen_yes isInn s)
  have RN := Lib.hid (runLen_no isInn s)
  have RE := Lib.hid (runLen_end isInn s)
  go_enter Tryz.func122, Tryz.ntmps122
  go_wp2_with fail
  go_loop [7] (fun i => ∃ k : Nat, a ≤ k ∧ k ≤ s.size ∧ i = .int .i64 (k : Int) ∧ a + runLen isInn s a = k + runLen isInn s k) (fun i => s.size - (intOf i).toNat)
  case atStart => exact ⟨a, by omega, by omega, rfl, rfl⟩
  case round =>
    obtain ⟨k, hak, hk, rfl, hr⟩ := hrel
    have HR := Lib.hid hr
    clear hr
    by_cases hlt : k < s.size
    · have hd : decide ((k : Int) < (s.size : Int)) = true := by simp; omega
      cases hp : isInn s[k] with
      | true =>
        go_wp2_with (go_at_call 123; rw [WB.out]; refine (CT.out _ _).mono ?_; rintro e w' ⟨rfl, rfl⟩; rw [hp])
        go_round
        case rel => exact ⟨k + 1, by omega, by omega, by go_num, by rw [HR.out, RY.out k hlt hp]; omega⟩
        case measure => simp [intOf]; omega
      | false =>
        go_wp2_with (go_at_call 123; rw [WB.out]; refine (CT.out _ _).mono ?_; rintro e w' ⟨rfl, rfl⟩; rw [hp])
        go_ret
        have h := RN.out k hlt hp
        have h2 := HR.out
        rw [h] at h2
        exact ⟨by rw [h2]; simp, rfl⟩
    · have hd : decide ((k : Int) < (s.size : Int)) = false := by simp; omega
      go_wp2_with fail
      go_ret
      have h := RE.out k (by omega)
      have h2 := HR.out
      rw [h] at h2
      exact ⟨by rw [h2]; simp, rfl⟩

theorem run_digit (s : ByteArray) (a : Nat) (w : World) (hs : s.size ≤ maxLen) (ha : a ≤ s.size) :
    Calls Tryz.prog 122 #[.string s, .int .i64 (a : Int), .func (.func 141) #[] #[]] w fun e w' => e = .returned (.string (s.extract a (a + runLen isDig s a))) ∧ w = w' := by
  unfold maxLen at hs
  have CT := Lib.hid digit_any
  have WB := Lib.hid wrap32_byte
  have RY := Lib.hid (runLen_yes isDig s)
  have RN := Lib.hid (runLen_no isDig s)
  have RE := Lib.hid (runLen_end isDig s)
  go_enter Tryz.func122, Tryz.ntmps122
  go_wp2_with fail
  go_loop [7] (fun i => ∃ k : Nat, a ≤ k ∧ k ≤ s.size ∧ i = .int .i64 (k : Int) ∧ a + runLen isDig s a = k + runLen isDig s k) (fun i => s.size - (intOf i).toNat)
  case atStart => exact ⟨a, by omega, by omega, rfl, rfl⟩
  case round =>
    obtain ⟨k, hak, hk, rfl, hr⟩ := hrel
    have HR := Lib.hid hr
    clear hr
    by_cases hlt : k < s.size
    · have hd : decide ((k : Int) < (s.size : Int)) = true := by simp; omega
      cases hp : isDig s[k] with
      | true =>
        go_wp2_with (go_at_call 141; rw [WB.out]; refine (CT.out _ _).mono ?_; rintro e w' ⟨rfl, rfl⟩; rw [hp])
        go_round
        case rel => exact ⟨k + 1, by omega, by omega, by go_num, by rw [HR.out, RY.out k hlt hp]; omega⟩
        case measure => simp [intOf]; omega
      | false =>
        go_wp2_with (go_at_call 141; rw [WB.out]; refine (CT.out _ _).mono ?_; rintro e w' ⟨rfl, rfl⟩; rw [hp])
        go_ret
        have h := RN.out k hlt hp
        have h2 := HR.out
        rw [h] at h2
        exact ⟨by rw [h2]; simp, rfl⟩
    · have hd : decide ((k : Int) < (s.size : Int)) = false := by simp; omega
      go_wp2_with fail
      go_ret
      have h := RE.out k (by omega)
      have h2 := HR.out
      rw [h] at h2
      exact ⟨by rw [h2]; simp, rfl⟩

end Lex
end Go.Proofs.YtaikmgnpfbnjjaaGreatDoor
namespace Go.Proofs.YtaikmgnpfbnjjaaGreatDoor
open Go.ChangeShapes Go.WideShapes Go.ChangeAt Go.RowKit
namespace Lex

/-- the value of the first k bytes -/
def valT (t : ByteArray) (k : Nat) : Nat := val (t.data.toList.take k)
theorem valT_snoc (t : ByteArray) (k : Nat) (h : k < t.size) : valT t (k + 1) = valT t k * 10 + (t[k].toNat - 48) := by
  unfold valT
  rw [List.take_add_one, List.getElem?_eq_getElem (by exact h)]
  exact val_snoc _ _
theorem dig_le {b : UInt8} (h : isDig b = true) : 48 ≤ b.toNat ∧ b.toNat ≤ 57 := by
  unfold isDig at h
  simpa using h
theorem valT_lt (t : ByteArray) (hd : ∀ k (h : k < t.size), isDig t[k] = true) : ∀ k, k ≤ t.size → valT t k + 1 ≤ 10 ^ k
  | 0, _ => by simp [valT, val]
  | k + 1, h => by
    have h1 := valT_lt t hd k (by omega)
    rw [valT_snoc t k (by omega), Nat.pow_succ]
    have h2 := dig_le (hd k (by omega))
    omega
theorem valT_small (t : ByteArray) (hd : ∀ k (h : k < t.size), isDig t[k] = true) (hs : t.size ≤ 9) (k : Nat) (hk : k ≤ t.size) : valT t k < 1000000000 := by
  have h1 := valT_lt t hd k hk
  have h2 : 10 ^ k ≤ 10 ^ 9 := Nat.pow_le_pow_right (by omega) (by omega)
  omega
theorem valT_end (t : ByteArray) (k : Nat) (h : t.size ≤ k) : valT t k = val t.data.toList := by
  unfold valT
  rw [List.take_of_length_le (by exact h)]

theorem number_zero (t : ByteArray) (w : World) (hs : t.size ≤ maxLen) (h1 : 1 < t.size) (h0 : t[0].toNat = 48) :
    Calls Tryz.prog 149 #[.string t] w fun e w' => e = .returned (.tuple #[.int .i64 0, .int .i64 2]) ∧ w = w' := by
  unfold maxLen at hs
  have c1 : decide ((1 : Int) < (t.size : Int)) = true := by simp; omega
  have hi : (0 : Nat) < t.size := by omega
  have c2 : ((t[0].toNat : Int) == 48) = true := by simp; omega
  go_enter Tryz.func149, Tryz.ntmps149
  go_wp2_with fail
  go_ret2
  exact ⟨rfl, rfl⟩
theorem number_long (t : ByteArray) (w : World) (hs : t.size ≤ maxLen) (h1 : 9 < t.size) (h0 : ¬ t[0].toNat = 48) :
    Calls Tryz.prog 149 #[.string t] w fun e w' => e = .returned (.tuple #[.int .i64 0, .int .i64 4]) ∧ w = w' := by
  unfold maxLen at hs
  have c1 : decide ((1 : Int) < (t.size : Int)) = true := by simp; omega
  have c2 : ((t[0].toNat : Int) == 48) = false := by simp; omega
  have c3 : decide ((9 : Int) < (t.size : Int)) = true := by simp; omega
  go_enter Tryz.func149, Tryz.ntmps149
  go_wp2_with fail
  go_ret2
  exact ⟨rfl, rfl⟩
theorem number_good (t : ByteArray) (w : World) (hs : t.size ≤ 9) (h0 : ∀ h : 1 < t.size, ¬ t[0].toNat = 48) (hd : ∀ k (h : k < t.size), isDig t[k] = true) :
    Calls Tryz.prog 149 #[.string t] w fun e w' => e = .returned (.tuple #[.int .i64 (val t.data.toList : Nat), .int .i64 0]) ∧ w = w' := by
  have c3 : decide ((9 : Int) < (t.size : Int)) = false := by simp; omega
  have VS := Lib.hid (valT_small t hd hs)
  have VN := Lib.hid (valT_snoc t)
  have VE := Lib.hid (valT_end t)
  have HD := Lib.hid hd
  clear hd
  by_cases h1 : 1 < t.size
  · have c1 : decide ((1 : Int) < (t.size : Int)) = true := by simp; omega
    have c2 : ((t[0].toNat : Int) == 48) = false := by have := h0 h1; simp; omega
    clear h0
    go_enter Tryz.func149, Tryz.ntmps149
    go_wp2_with fail
    go_loop [4, 21] (fun n i => ∃ k : Nat, k ≤ t.size ∧ i = .int .i64 (k : Int) ∧ n = .int .i64 (valT t k : Nat)) (fun _ i => t.size - (intOf i).toNat)
    case atStart => exact ⟨0, by omega, rfl, rfl⟩
    case round =>
      obtain ⟨k, hk, rfl, rfl⟩ := hrel
      by_cases hlt : k < t.size
      · have hd2 : decide ((k : Int) < (t.size : Int)) = true := by simp; omega
        have hv := VS.out k hk
        have hb := dig_le (HD.out k hlt)
        have hx : ((t[k].toNat : Int) - 48) % 256 = (t[k].toNat : Int) - 48 := by omega
        go_wp2_with fail
        go_round
        case rel => exact ⟨k + 1, by omega, by go_num, by rw [VN.out k hlt]; go_num⟩
        case measure => simp [intOf]; omega
      · have hd2 : decide ((k : Int) < (t.size : Int)) = false := by simp; omega
        go_wp2_with fail
        go_ret2
        exact ⟨by rw [← VE.out k (by omega)]; rfl, rfl⟩
  · have c1 : decide ((1 : Int) < (t.size : Int)) = false := by simp; omega
    clear h0
    go_enter Tryz.func149, Tryz.ntmps149
    go_wp2_with fail
    go_loop [4, 21] (fun n i => ∃ k : Nat, k ≤ t.size ∧ i = .int .i64 (k : Int) ∧ n = .int .i64 (valT t k : Nat)) (fun _ i => t.size - (intOf i).toNat)
    case atStart => exact ⟨0, by omega, rfl, rfl⟩
    case round =>
      obtain ⟨k, hk, rfl, rfl⟩ := hrel
      by_cases hlt : k < t.size
      · have hd2 : decide ((k : Int) < (t.size : Int)) = true := by simp; omega
        have hv := VS.out k hk
        have hb := dig_le (HD.out k hlt)
        have hx : ((t[k].toNat : Int) - 48) % 256 = (t[k].toNat : Int) - 48 := by omega
        go_wp2_with fail
        go_round
        case rel => exact ⟨k + 1, by omega, by go_num, by rw [VN.out k hlt]; go_num⟩
        case measure => simp [intOf]; omega
      · have hd2 : decide ((k : Int) < (t.size : Int)) = false := by simp; omega
        go_wp2_with fail
        go_ret2
        exact ⟨by rw [← VE.out k (by omega)]; rfl, rfl⟩
end Lex
end Go.Proofs.YtaikmgnpfbnjjaaGreatDoor
namespace Go.Proofs.YtaikmgnpfbnjjaaGreatDoor
open Go.ChangeShapes Go.WideShapes Go.ChangeAt Go.RowKit
namespace Lex

theorem drewN_below (w : World) (n : Nat) : Below w.heap.size w (w.drewN n) := ⟨rfl, rfl, rfl, Nat.le_refl _, fun _ _ => rfl⟩
set_option maxRecDepth 100000 in
theorem slIndexByte (s : ByteArray) (c : Int) (w : World) : Calls Tryz.prog 128 #[.string s, .int .u8 c] w fun e w' => e = .returned (.int .i64 (Lib.indexByte s.data.toList c.toNat.toUInt8)) ∧ w = w' := by
  go_enter Tryz.func128, Tryz.ntmps128
  go_wp2
  rw [run_callFunc_extern Tryz.func147 (by kernel_rfl) (by kernel_rfl) (by kernel_rfl) (e := Extern.BytealgIndexByte.indexByte) (by kernel_rfl), Lib.run_indexByteString]
  simp only [Result.andThen]
  rw [Oper.upon_value]
  go_wp2
  go_ret
  exact ⟨rfl, rfl⟩
theorem indexByte_any (s : ByteArray) (c : Int) (w : World) : Calls Tryz.prog 157 #[.string s, .int .u8 c] w fun e w' => e = .returned (.int .i64 (Lib.indexByte s.data.toList c.toNat.toUInt8)) ∧ w = w' := by
  go_enter Tryz.func157, Tryz.ntmps157
  go_wp2_with (go_at_call 128; refine (slIndexByte _ _ _).mono ?_; rintro e w' ⟨rfl, rfl⟩)
  go_ret
  exact ⟨rfl, rfl⟩
theorem validRune_byte (r : Int) (w : World) (h0 : 0 ≤ r) (h1 : r < 55296) : Calls Tryz.prog 158 #[.int .i32 r] w fun e w' => e = .returned (.bool true) ∧ w = w' := by
  go_enter Tryz.func158, Tryz.ntmps158
  go_wp2_with fail
  go_ret
  exact ⟨rfl, rfl⟩
/-- the marks -/
def marks : ByteArray := ⟨#[123, 125, 40, 41, 44, 58, 64, 43, 45, 61]⟩
set_option maxRecDepth 100000 in
theorem indexRune_low (r : Int) (w : World) (h0 : 0 ≤ r) (h1 : r < 128) : Calls Tryz.prog 156 #[.string marks, .int .i32 r] w fun e w' => e = .returned (.int .i64 (Lib.indexByte marks.data.toList r.toNat.toUInt8)) ∧ w = w' := by
  have CI := Lib.hid indexByte_any
  generalize marks = s at *
  go_enter Tryz.func156, Tryz.ntmps156
  go_wp2_with (go_at_call 157; refine (CI.out _ _ _).mono ?_; rintro e w' ⟨rfl, rfl⟩)
  go_ret
  exact ⟨rfl, rfl⟩
theorem enc_high (b : UInt8) (h : 128 ≤ b.toNat) : ∃ r : ByteArray, Utf8.encode (b.toNat : Int) = r ∧ r.size = 2 ∧ ∀ h, 128 ≤ (r[1]'h).toNat := by
  have hb := b.toNat_lt
  have hv : Utf8.valid (b.toNat : Int) = true := by rw [validRune_eq]; unfold validRune; simp; omega
  refine ⟨⟨#[UInt8.ofNat (192 + b.toNat / 64), UInt8.ofNat (128 + b.toNat % 64)]⟩, ?_, rfl, fun _ => ?_⟩
  · unfold Utf8.encode
    have h1 : ¬ b.toNat < 128 := by omega
    have h2 : b.toNat < 2048 := by omega
    simp [hv, h1, h2]
  · show 128 ≤ (UInt8.ofNat (128 + b.toNat % 64)).toNat
    simp; omega
theorem marks_none (c : UInt8) (h : 128 ≤ c.toNat) (a e : Nat) : Lib.indexByte (marks.extract a e).data.toList c = -1 := by
  rw [← Lib.firstIdx_eq]
  exact firstIdx_ascii marks a e c (by decide +kernel) h
set_option maxRecDepth 100000 in
theorem indexRune_high (b : UInt8) (w : World) (h : 128 ≤ b.toNat) : Calls Tryz.prog 156 #[.string marks, .int .i32 (b.toNat : Int)] w fun e w' => e = .returned (.int .i64 (-1)) ∧ Below w.heap.size w w' := by
  have hb := b.toNat_lt
  have CI := Lib.hid indexByte_any
  obtain ⟨r, he, hr, hy⟩ := enc_high b h
  have hz : marks.size = 10 := by decide +kernel
  have h1 : ∀ h, (marks[1]'h).toNat = 125 := fun _ => rfl
  have MN := Lib.hid marks_none
  have c1 : decide ((0 : Int) ≤ (b.toNat : Int)) = true := by simp; try omega
  have c2 : decide ((b.toNat : Int) < 128) = false := by simp; omega
  have c3 : ((b.toNat : Int) == 65533) = false := by simp; omega
  generalize marks = s at *
  have hs1 : 1 < s.size := by omega
  have hr1 : 1 < r.size := by omega
  have hn : (((s[1]).toNat : Int) != ((r[1]).toNat : Int)) = true := by have := hy hr1; have := h1 hs1; simp; omega
  have HC := Lib.hid (show 128 ≤ (((r[1]).toNat : Int).toNat.toUInt8).toNat by have := hy hr1; have h9 := (r[1]).toNat_lt; simp; omega)
  clear hy h1
  go_enter Tryz.func156, Tryz.ntmps156
  go_wp2_with (go_at_call 158; refine (validRune_byte _ _ (by omega) (by omega)).mono ?_; rintro e w' ⟨rfl, rfl⟩)
  clear c1 c2 c3
  go_step3
  go_wp2_with fail
  refine wp_loop_rounds 1 ?_
  rw [rounds_succ]
  go_wp2_with fail
  go_step3
  go_wp2_with fail
  go_quiet (fail)
  go_wp2_with fail
  have B1 : Below w.heap.size w (w.drewN nq) := drewN_below w nq
  generalize w.drewN nq = w1 at B1 ⊢
  have w2 : IntKind.i64.wrap 2 = 2 := rfl
  have q1 : (2 : Int) ≤ (s.size : Int) := by omega
  go_quiet (first | (go_at_call 157; refine (CI.out _ _ _).mono ?_; rintro e w' ⟨rfl, rfl⟩; rw [MN.out _ HC.out]; exact ⟨rfl, _, rfl⟩))
  go_wp2_with fail
  dsimp only [Exit.noGoto, Exit.inBlock, Exit.then]
  go_ret
  exact ⟨rfl, chain0 B1 (drewN_below _ nq)⟩
end Lex
end Go.Proofs.YtaikmgnpfbnjjaaGreatDoor
namespace Go.Proofs.YtaikmgnpfbnjjaaGreatDoor
open Go.ChangeShapes Go.WideShapes Go.ChangeAt Go.RowKit
namespace Lex
theorem marks_low (b : UInt8) (_h : b.toNat < 128) : decide ((0 : Int) ≤ Lib.indexByte marks.data.toList ((b.toNat : Int).toNat.toUInt8)) = isMark b := by
  have e : ((b.toNat : Int).toNat.toUInt8) = b := by simp
  rw [e]
  have key : ∀ n : Fin 256, decide ((0 : Int) ≤ Lib.indexByte marks.data.toList (UInt8.ofNat n.val)) = isMark (UInt8.ofNat n.val) := by decide +kernel
  have := key ⟨b.toNat, b.toNat_lt⟩
  simpa using this
theorem mark_high (b : UInt8) (h : 128 ≤ b.toNat) : isMark b = false := by
  unfold isMark
  simp
  omega
theorem containsRune_any (b : UInt8) (w : World) : Calls Tryz.prog 150 #[.string marks, .int .i32 (b.toNat : Int)] w fun e w' => e = .returned (.bool (isMark b)) ∧ Below w.heap.size w w' := by
  by_cases h : b.toNat < 128
  · have C := Lib.hid (fun w => indexRune_low (b.toNat : Int) w (by omega) (by omega))
    have M := Lib.hid (marks_low b h)
    generalize marks = s at *
    go_enter Tryz.func150, Tryz.ntmps150
    go_wp2_with (go_at_call 156; refine (C.out _).mono ?_; rintro e w' ⟨rfl, rfl⟩)
    go_ret
    exact ⟨by rw [← M.out]; simp, Below.refl _ _⟩
  · have C := Lib.hid (fun w => indexRune_high b w (by omega))
    have M := Lib.hid (mark_high b (by omega))
    generalize marks = s at *
    go_enter Tryz.func150, Tryz.ntmps150
    go_wp2_with fail
    refine (C.out _).mono ?_
    rintro e w1 ⟨rfl, b1⟩
    go_wp2_with fail
    go_ret
    exact ⟨by rw [M.out]; rfl, b1⟩
end Lex
end Go.Proofs.YtaikmgnpfbnjjaaGreatDoor
namespace Go.Proofs.YtaikmgnpfbnjjaaGreatDoor
open Go.ChangeShapes Go.WideShapes Go.ChangeAt Go.RowKit
namespace Lex
set_option maxHeartbeats 4000000 in
theorem rmark_any (b : UInt8) (w : World) : Calls Tryz.prog 140 #[.int .u8 (b.toNat : Int)] w fun e w' => e = .returned (.bool (isMark b)) ∧ w = w' := by
  have hb := b.toNat_lt
  by_cases h0 : b.toNat = 123
  · have c0 : ((123 : Int) == (b.toNat : Int)) = true := by simp; omega
    have hm : isMark b = true := by unfold isMark; simp [h0]
    go_enter Tryz.func140, Tryz.ntmps140
    go_wp2_with fail
    refine wp_loop_rounds 1 ?_
    iterate 1 (rw [rounds_succ]; go_wp2_with fail)
    go_ret
    exact ⟨by rw [hm]; rfl, rfl⟩
  have c0 : ((123 : Int) == (b.toNat : Int)) = false := by simp; omega
  have d0 : ((((⟨#[123, 125, 40, 41, 58, 44, 64, 43, 45, 61]⟩ : ByteArray)[0]'(by decide)).toNat : Int) == (b.toNat : Int)) = false := c0
  by_cases h1 : b.toNat = 125
  · have c1 : ((125 : Int) == (b.toNat : Int)) = true := by simp; omega
    have hm : isMark b = true := by unfold isMark; simp [h1]
    go_enter Tryz.func140, Tryz.ntmps140
    go_wp2_with fail
    refine wp_loop_rounds 2 ?_
    iterate 2 (rw [rounds_succ]; go_wp2_with fail)
    go_ret
    exact ⟨by rw [hm]; rfl, rfl⟩
  have c1 : ((125 : Int) == (b.toNat : Int)) = false := by simp; omega
  have d1 : ((((⟨#[123, 125, 40, 41, 58, 44, 64, 43, 45, 61]⟩ : ByteArray)[1]'(by decide)).toNat : Int) == (b.toNat : Int)) = false := c1
  by_cases h2 : b.toNat = 40
  · have c2 : ((40 : Int) == (b.toNat : Int)) = true := by simp; omega
    have hm : isMark b = true := by unfold isMark; simp [h2]
    go_enter Tryz.func140, Tryz.ntmps140
    go_wp2_with fail
    refine wp_loop_rounds 3 ?_
    iterate 3 (rw [rounds_succ]; go_wp2_with fail)
    go_ret
    exact ⟨by rw [hm]; rfl, rfl⟩
  have c2 : ((40 : Int) == (b.toNat : Int)) = false := by simp; omega
  have d2 : ((((⟨#[123, 125, 40, 41, 58, 44, 64, 43, 45, 61]⟩ : ByteArray)[2]'(by decide)).toNat : Int) == (b.toNat : Int)) = false := c2
  by_cases h3 : b.toNat = 41
  · have c3 : ((41 : Int) == (b.toNat : Int)) = true := by simp; omega
    have hm : isMark b = true := by unfold isMark; simp [h3]
    go_enter Tryz.func140, Tryz.ntmps140
    go_wp2_with fail
    refine wp_loop_rounds 4 ?_
    iterate 4 (rw [rounds_succ]; go_wp2_with fail)
    go_ret
    exact ⟨by rw [hm]; rfl, rfl⟩
  have c3 : ((41 : Int) == (b.toNat : Int)) = false := by simp; omega
  have d3 : ((((⟨#[123, 125, 40, 41, 58, 44, 64, 43, 45, 61]⟩ : ByteArray)[3]'(by decide)).toNat : Int) == (b.toNat : Int)) = false := c3
  by_cases h4 : b.toNat = 58
  · have c4 : ((58 : Int) == (b.toNat : Int)) = true := by simp; omega
    have hm : isMark b = true := by unfold isMark; simp [h4]
    go_enter Tryz.func140, Tryz.ntmps140
    go_wp2_with fail
    refine wp_loop_rounds 5 ?_
    iterate 5 (rw [rounds_succ]; go_wp2_with fail)
    go_ret
    exact ⟨by rw [hm]; rfl, rfl⟩
  have c4 : ((58 : Int) == (b.toNat : Int)) = false := by simp; omega
  have d4 : ((((⟨#[123, 125, 40, 41, 58, 44, 64, 43, 45, 61]⟩ : ByteArray)[4]'(by decide)).toNat : Int) == (b.toNat : Int)) = false := c4
  by_cases h5 : b.toNat = 44
  · have c5 : ((44 : Int) == (b.toNat : Int)) = true := by simp; omega
    have hm : isMark b = true := by unfold isMark; simp [h5]
    go_enter Tryz.func140, Tryz.ntmps140
    go_wp2_with fail
    refine wp_loop_rounds 6 ?_
    iterate 6 (rw [rounds_succ]; go_wp2_with fail)
    go_ret
    exact ⟨by rw [hm]; rfl, rfl⟩
  have c5 : ((44 : Int) == (b.toNat : Int)) = false := by simp; omega
  have d5 : ((((⟨#[123, 125, 40, 41, 58, 44, 64, 43, 45, 61]⟩ : ByteArray)[5]'(by decide)).toNat : Int) == (b.toNat : Int)) = false := c5
  by_cases h6 : b.toNat = 64
  · have c6 : ((64 : Int) == (b.toNat : Int)) = true := by simp; omega
    have hm : isMark b = true := by unfold isMark; simp [h6]
    go_enter Tryz.func140, Tryz.ntmps140
    go_wp2_with fail
    refine wp_loop_rounds 7 ?_
    iterate 7 (rw [rounds_succ]; go_wp2_with fail)
    go_ret
    exact ⟨by rw [hm]; rfl, rfl⟩
  have c6 : ((64 : Int) == (b.toNat : Int)) = false := by simp; omega
  have d6 : ((((⟨#[123, 125, 40, 41, 58, 44, 64, 43, 45, 61]⟩ : ByteArray)[6]'(by decide)).toNat : Int) == (b.toNat : Int)) = false := c6
  by_cases h7 : b.toNat = 43
  · have c7 : ((43 : Int) == (b.toNat : Int)) = true := by simp; omega
    have hm : isMark b = true := by unfold isMark; simp [h7]
    go_enter Tryz.func140, Tryz.ntmps140
    go_wp2_with fail
    refine wp_loop_rounds 8 ?_
    iterate 8 (rw [rounds_succ]; go_wp2_with fail)
    go_ret
    exact ⟨by rw [hm]; rfl, rfl⟩
  have c7 : ((43 : Int) == (b.toNat : Int)) = false := by simp; omega
  have d7 : ((((⟨#[123, 125, 40, 41, 58, 44, 64, 43, 45, 61]⟩ : ByteArray)[7]'(by decide)).toNat : Int) == (b.toNat : Int)) = false := c7
  by_cases h8 : b.toNat = 45
  · have c8 : ((45 : Int) == (b.toNat : Int)) = true := by simp; omega
    have hm : isMark b = true := by unfold isMark; simp [h8]
    go_enter Tryz.func140, Tryz.ntmps140
    go_wp2_with fail
    refine wp_loop_rounds 9 ?_
    iterate 9 (rw [rounds_succ]; go_wp2_with fail)
    go_ret
    exact ⟨by rw [hm]; rfl, rfl⟩
  have c8 : ((45 : Int) == (b.toNat : Int)) = false := by simp; omega
  have d8 : ((((⟨#[123, 125, 40, 41, 58, 44, 64, 43, 45, 61]⟩ : ByteArray)[8]'(by decide)).toNat : Int) == (b.toNat : Int)) = false := c8
  by_cases h9 : b.toNat = 61
  · have c9 : ((61 : Int) == (b.toNat : Int)) = true := by simp; omega
    have hm : isMark b = true := by unfold isMark; simp [h9]
    go_enter Tryz.func140, Tryz.ntmps140
    go_wp2_with fail
    refine wp_loop_rounds 10 ?_
    iterate 10 (rw [rounds_succ]; go_wp2_with fail)
    go_ret
    exact ⟨by rw [hm]; rfl, rfl⟩
  have c9 : ((61 : Int) == (b.toNat : Int)) = false := by simp; omega
  have d9 : ((((⟨#[123, 125, 40, 41, 58, 44, 64, 43, 45, 61]⟩ : ByteArray)[9]'(by decide)).toNat : Int) == (b.toNat : Int)) = false := c9
  have hm : isMark b = false := by unfold isMark; simp; omega
  go_enter Tryz.func140, Tryz.ntmps140
  go_wp2_with fail
  refine wp_loop_rounds 11 ?_
  iterate 11 (rw [rounds_succ]; go_wp2_with fail)
  go_ret
  exact ⟨by rw [hm]; rfl, rfl⟩
end Lex
end Go.Proofs.YtaikmgnpfbnjjaaGreatDoor
namespace Go.Proofs.YtaikmgnpfbnjjaaGreatDoor
open Go.ChangeShapes Go.WideShapes Go.ChangeAt Go.RowKit
namespace Lex
theorem results_cell_row_tmp {P : Program} {fn : Func} {p u : Tmp} {ty : TypeId} (h : fn.results = #[.cell p ty, .tmp u]) (tmps : Array Value) (w : World) (g : Nat) (t : TypeId) (cs : Array Value) (fr : Nat × Nat) (d : TypeDesc)
    (hp : tmps.getD p undef = .pointer (some ⟨g, 0, none⟩)) (hg : w.heap[g]? = some (.cells cs t fr))
    (hu : P.underlying ty = some d) (hd : (match d with | .struct _ | .array _ _ => true | _ => false) = true) (hi : (P.info? ty).map (·.size) = some cs.size) {x : Value} (hx : tmps.getD u undef = x) :
    (results fn tmps).run P w = .ok (.tuple #[.agg cs, x]) w := by
  subst hx
  have hp' : tmps[p]?.getD undef = .pointer (some ⟨g, 0, none⟩) := by simpa using hp
  simp [results, h, hp', asAddr, run_loadVar_row w g t ty cs fr d hg hu hd hi]
theorem heap_two (w : World) (o o' : Obj) : ((w.alloc o).alloc o').heap[w.heap.size]? = some o := by
  show ((w.heap.push o).push o')[w.heap.size]? = some o
  rw [Array.getElem?_push]
  simp
theorem one_word (s : ByteArray) (a : Nat) (w : World) (hs : s.size ≤ 5000) (ha : a < s.size) (hl : isLet s[a] = true) (h12 : runLen isInn s a ≤ 12) :
    Calls Tryz.prog 133 #[.string s, .int .i64 (a : Int)] w fun e w' => e = .returned (.tuple #[.agg #[.int .i64 1, .string (s.extract a (a + runLen isInn s a)), .int .i64 0, .int .i64 (a : Int)], .int .i64 0]) ∧ Below w.heap.size w w' := by
  have hb := s[a].toNat_lt
  have CL := Lib.hid (letter_any s[a])
  have WB := Lib.hid (wrap32_byte s[a])
  have CR := Lib.hid (fun w => run_inner s a w (by unfold maxLen; omega) (by omega))
  have hz : (s.extract a (a + runLen isInn s a)).size = runLen isInn s a := by
    have := runLen_le isInn s a (by omega)
    simp; omega
  generalize s.extract a (a + runLen isInn s a) = t at *
  have hd : decide ((12 : Int) < (t.size : Int)) = false := by simp; omega
  go_enter Tryz.func133, Tryz.ntmps133
  go_wp2_with (first | (go_at_call 121; (try rw [WB.out]); refine (CL.out _).mono ?_; rintro e w' ⟨rfl, rfl⟩; rw [hl]) | (go_at_call 122; refine (CR.out _).mono ?_; rintro e w' ⟨rfl, rfl⟩))
  refine bodyPost_ret (v := .tuple #[.agg #[.int .i64 1, .string t, .int .i64 0, .int .i64 (a : Int)], .int .i64 0]) (results_cell_row_tmp (p := 4) (u := 5) rfl _ _ w.heap.size 157 _ (0, 0) _ rfl (heap_two w _ _) Tryz.underlying157 rfl (by kernel_rfl) rfl) rfl ⟨rfl, ?_⟩
  go_grown

theorem one_long (s : ByteArray) (a : Nat) (w : World) (hs : s.size ≤ 5000) (ha : a < s.size) (hl : isLet s[a] = true) (h12 : 12 < runLen isInn s a) :
    Calls Tryz.prog 133 #[.string s, .int .i64 (a : Int)] w fun e w' => e = .returned (.tuple #[.agg #[.int .i64 0, .string ⟨#[]⟩, .int .i64 0, .int .i64 0], .int .i64 3]) ∧ Below w.heap.size w w' := by
  have hb := s[a].toNat_lt
  have CL := Lib.hid (letter_any s[a])
  have WB := Lib.hid (wrap32_byte s[a])
  have CR := Lib.hid (fun w => run_inner s a w (by unfold maxLen; omega) (by omega))
  have hz : (s.extract a (a + runLen isInn s a)).size = runLen isInn s a := by
    have := runLen_le isInn s a (by omega)
    simp; omega
  generalize s.extract a (a + runLen isInn s a) = t at *
  have hd : decide ((12 : Int) < (t.size : Int)) = true := by simp; omega
  go_enter Tryz.func133, Tryz.ntmps133
  go_wp2_with (first | (go_at_call 121; (try rw [WB.out]); refine (CL.out _).mono ?_; rintro e w' ⟨rfl, rfl⟩; rw [hl]) | (go_at_call 122; refine (CR.out _).mono ?_; rintro e w' ⟨rfl, rfl⟩))
  refine bodyPost_ret (v := .tuple #[.agg #[.int .i64 0, .string ⟨#[]⟩, .int .i64 0, .int .i64 0], .int .i64 3]) (results_cell_row_tmp (p := 4) (u := 5) rfl _ _ w.heap.size 157 _ (0, 0) _ rfl (heap_two w _ _) Tryz.underlying157 rfl (by kernel_rfl) rfl) rfl ⟨rfl, ?_⟩
  go_grown
end Lex
end Go.Proofs.YtaikmgnpfbnjjaaGreatDoor
namespace Go.Proofs.YtaikmgnpfbnjjaaGreatDoor
open Go.ChangeShapes Go.WideShapes Go.ChangeAt Go.RowKit
namespace Lex
theorem one_num (s t : ByteArray) (a : Nat) (w : World) (hs : s.size ≤ 5000) (ha : a < s.size) (hl : isLet s[a] = false) (hg : isDig s[a] = true) (ht : s.extract a (a + runLen isDig s a) = t) (v : Nat)
    (hn : ∀ w, Calls Tryz.prog 149 #[.string t] w fun e w' => e = .returned (.tuple #[.int .i64 (v : Int), .int .i64 0]) ∧ w = w') :
    Calls Tryz.prog 133 #[.string s, .int .i64 (a : Int)] w fun e w' => e = .returned (.tuple #[.agg #[.int .i64 2, .string t, .int .i64 (v : Int), .int .i64 (a : Int)], .int .i64 0]) ∧ Below w.heap.size w w' := by
  have hb := s[a].toNat_lt
  have CL := Lib.hid (letter_any s[a])
  have CD := Lib.hid (digit_any s[a])
  have WB := Lib.hid (wrap32_byte s[a])
  have CR := Lib.hid (fun w => run_digit s a w (by unfold maxLen; omega) (by omega))
  rw [ht] at CR
  have CN := Lib.hid hn
  clear hn ht
  go_enter Tryz.func133, Tryz.ntmps133
  go_wp2_with (first | (go_at_call 121; (try rw [WB.out]); refine (CL.out _).mono ?_; rintro e w' ⟨rfl, rfl⟩; rw [hl]) | (go_at_call 141; (try rw [WB.out]); refine (CD.out _).mono ?_; rintro e w' ⟨rfl, rfl⟩; rw [hg]) | (go_at_call 122; refine (CR.out _).mono ?_; rintro e w' ⟨rfl, rfl⟩) | (go_at_call 149; refine (CN.out _).mono ?_; rintro e w' ⟨rfl, rfl⟩))
  refine bodyPost_ret (v := .tuple #[.agg #[.int .i64 2, .string t, .int .i64 (v : Int), .int .i64 (a : Int)], .int .i64 0]) (results_cell_row_tmp (p := 4) (u := 5) rfl _ _ w.heap.size 157 _ (0, 0) _ rfl (heap_two w _ _) Tryz.underlying157 rfl (by kernel_rfl) rfl) rfl ⟨rfl, ?_⟩
  go_grown
theorem one_numerr (s t : ByteArray) (a : Nat) (w : World) (hs : s.size ≤ 5000) (ha : a < s.size) (hl : isLet s[a] = false) (hg : isDig s[a] = true) (ht : s.extract a (a + runLen isDig s a) = t) (e0 : Int) (he0 : e0 = 2 ∨ e0 = 4)
    (hn : ∀ w, Calls Tryz.prog 149 #[.string t] w fun e w' => e = .returned (.tuple #[.int .i64 0, .int .i64 e0]) ∧ w = w') :
    Calls Tryz.prog 133 #[.string s, .int .i64 (a : Int)] w fun e w' => e = .returned (.tuple #[.agg #[.int .i64 0, .string ⟨#[]⟩, .int .i64 0, .int .i64 0], .int .i64 e0]) ∧ Below w.heap.size w w' := by
  have hb := s[a].toNat_lt
  have CL := Lib.hid (letter_any s[a])
  have CD := Lib.hid (digit_any s[a])
  have WB := Lib.hid (wrap32_byte s[a])
  have CR := Lib.hid (fun w => run_digit s a w (by unfold maxLen; omega) (by omega))
  rw [ht] at CR
  have CN := Lib.hid hn
  clear hn ht
  have hq : (e0 != (0 : Int)) = true := by rcases he0 with rfl | rfl <;> rfl
  clear he0
  go_enter Tryz.func133, Tryz.ntmps133
  go_wp2_with (first | (go_at_call 121; (try rw [WB.out]); refine (CL.out _).mono ?_; rintro e w' ⟨rfl, rfl⟩; rw [hl]) | (go_at_call 141; (try rw [WB.out]); refine (CD.out _).mono ?_; rintro e w' ⟨rfl, rfl⟩; rw [hg]) | (go_at_call 122; refine (CR.out _).mono ?_; rintro e w' ⟨rfl, rfl⟩) | (go_at_call 149; refine (CN.out _).mono ?_; rintro e w' ⟨rfl, rfl⟩))
  refine bodyPost_ret (v := .tuple #[.agg #[.int .i64 0, .string ⟨#[]⟩, .int .i64 0, .int .i64 0], .int .i64 e0]) (results_cell_row_tmp (p := 4) (u := 5) rfl _ _ w.heap.size 157 _ (0, 0) _ rfl (heap_two w _ _) Tryz.underlying157 rfl (by kernel_rfl) rfl) rfl ⟨rfl, ?_⟩
  go_grown
end Lex
end Go.Proofs.YtaikmgnpfbnjjaaGreatDoor
