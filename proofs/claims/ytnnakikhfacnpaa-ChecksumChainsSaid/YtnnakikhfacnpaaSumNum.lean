/- Plain numbers: the register of CRC-32C, by bits, by four bits, by bytes; FNV-1a. -/
namespace Go.Proofs.Ytnnakikhfacnpaa
namespace Sum
def poly : Nat := 2197175160
/-- a step of the register -/
def step1 (r : Nat) : Nat := if r % 2 = 1 then r / 2 ^^^ poly else r / 2
def stepN : Nat → Nat → Nat
  | 0, r => r
  | n + 1, r => stepN n (step1 r)

theorem xor_cancel {a b c : Nat} (h : a ^^^ c = b ^^^ c) : a = b := by
  have : (a ^^^ c) ^^^ c = (b ^^^ c) ^^^ c := by rw [h]
  simpa [Nat.xor_assoc] using this
theorem xor_cancel_left {a b c : Nat} (h : c ^^^ a = c ^^^ b) : a = b :=
  xor_cancel (c := c) (by rw [Nat.xor_comm a, Nat.xor_comm b]; exact h)

theorem step1_xor (a b : Nat) : step1 (a ^^^ b) = step1 a ^^^ step1 b := by
  unfold step1
  have h := @Nat.xor_mod_two_eq_one a b
  rw [Nat.xor_div_two]
  by_cases ha : a % 2 = 1 <;> by_cases hb : b % 2 = 1
  · rw [if_neg (by rw [h]; simp [ha, hb]), if_pos ha, if_pos hb]
    rw [Nat.xor_assoc, Nat.xor_comm poly, Nat.xor_assoc (b / 2), Nat.xor_self]
    simp
  · rw [if_pos (by rw [h]; simp [ha, hb]), if_pos ha, if_neg hb]
    rw [Nat.xor_assoc, Nat.xor_assoc, Nat.xor_comm poly]
  · rw [if_pos (by rw [h]; simp [ha, hb]), if_neg ha, if_pos hb, Nat.xor_assoc]
  · rw [if_neg (by rw [h]; simp [ha, hb]), if_neg ha, if_neg hb]
theorem step1_lt {r : Nat} (h : r < 4294967296) : step1 r < 4294967296 := by
  unfold step1 poly
  split
  · exact Nat.xor_lt_two_pow (n := 32) (by omega) (by decide)
  · omega
theorem stepN_lt : ∀ (n r : Nat), r < 4294967296 → stepN n r < 4294967296
  | 0, _, h => h
  | n + 1, _, h => stepN_lt n _ (step1_lt h)
theorem stepN_xor : ∀ (n a b : Nat), stepN n (a ^^^ b) = stepN n a ^^^ stepN n b
  | 0, _, _ => rfl
  | n + 1, a, b => by
    show stepN n (step1 (a ^^^ b)) = _
    rw [step1_xor, stepN_xor n]
    rfl
theorem step1_double (m : Nat) : step1 (2 * m) = m := by
  unfold step1
  rw [if_neg (by omega)]
  omega
theorem stepN_mul : ∀ (n m : Nat), stepN n (2 ^ n * m) = m
  | 0, m => by simp [stepN]
  | n + 1, m => by
    show stepN n (step1 (2 ^ (n + 1) * m)) = m
    rw [show 2 ^ (n + 1) * m = 2 * (2 ^ n * m) by rw [Nat.pow_succ, Nat.mul_comm (2 ^ n) 2, Nat.mul_assoc], step1_double]
    exact stepN_mul n m
theorem stepN_add : ∀ (n m r : Nat), stepN (n + m) r = stepN m (stepN n r)
  | 0, m, _ => by rw [Nat.zero_add]; rfl
  | n + 1, m, r => by
    rw [show n + 1 + m = (n + m) + 1 by omega]
    exact stepN_add n m (step1 r)
/-- a number is its upper bits, xor its lower four -/
theorem split16 (r : Nat) : r = 2 ^ 4 * (r / 16) ^^^ r % 16 := by
  have h1 : 2 ^ 4 * (r / 16) ^^^ r % 16 = 2 ^ 4 * (r / 16) + r % 16 := by
    have hb : r % 16 < 2 ^ 4 := by omega
    apply Nat.eq_of_testBit_eq
    intro i
    rw [Nat.testBit_xor, Nat.two_pow_add_eq_or_of_lt hb, Nat.testBit_or]
    by_cases hi : i < 4
    · have : (2 ^ 4 * (r / 16)).testBit i = false := by
        rw [Nat.testBit_two_pow_mul]; simp; omega
      rw [this]; simp
    · have : (r % 16).testBit i = false := Nat.testBit_lt_two_pow (Nat.lt_of_lt_of_le hb (Nat.pow_le_pow_right (by decide) (by omega)))
      rw [this]; simp
  rw [h1]
  omega
/-- four steps at once -/
theorem nibble (r : Nat) : stepN 4 r = r / 16 ^^^ stepN 4 (r % 16) := by
  have h := congrArg (stepN 4) (split16 r)
  rw [h, stepN_xor, stepN_mul]
/-- a step can be undone -/
theorem step1_inj {a b : Nat} (ha : a < 4294967296) (hb : b < 4294967296) (h : step1 a = step1 b) : a = b := by
  have key : ∀ x : Nat, x < 4294967296 → (step1 x).testBit 31 = decide (x % 2 = 1) := by
    intro x hx
    have hd : (x / 2).testBit 31 = false := Nat.testBit_lt_two_pow (by omega)
    unfold step1
    split
    · rename_i h1
      rw [Nat.testBit_xor, hd, show poly.testBit 31 = true from by decide]
      simp [h1]
    · rename_i h1
      rw [hd]; simp [h1]
  have k1 := key a ha
  rw [h, key b hb] at k1
  have hp : (b % 2 = 1) ↔ (a % 2 = 1) := by simpa using k1
  unfold step1 at h
  by_cases h1 : a % 2 = 1
  · rw [if_pos h1, if_pos (hp.2 h1)] at h
    have := xor_cancel h
    have := hp.2 h1
    omega
  · rw [if_neg h1, if_neg (fun h2 => h1 (hp.1 h2))] at h
    have : ¬ b % 2 = 1 := fun h2 => h1 (hp.1 h2)
    omega
theorem stepN_inj : ∀ (n : Nat) {a b : Nat}, a < 4294967296 → b < 4294967296 → stepN n a = stepN n b → a = b
  | 0, _, _, _, _, h => h
  | n + 1, _, _, ha, hb, h => step1_inj ha hb (stepN_inj n (step1_lt ha) (step1_lt hb) h)

/-- the register behind a byte -/
def byteStep (r : Nat) (b : UInt8) : Nat := stepN 8 (r ^^^ b.toNat)
theorem xorb_lt {r : Nat} (b : UInt8) (h : r < 4294967296) : r ^^^ b.toNat < 4294967296 :=
  Nat.xor_lt_two_pow (n := 32) h (by have := b.toNat_lt; omega)
theorem byteStep_lt {r : Nat} (b : UInt8) (h : r < 4294967296) : byteStep r b < 4294967296 := stepN_lt 8 _ (xorb_lt b h)
theorem byteStep_nib (r : Nat) (b : UInt8) : byteStep r b = stepN 4 (stepN 4 (r ^^^ b.toNat)) := stepN_add 4 4 _
theorem foldl_snoc {α β : Type} (f : α → β → α) (a : α) (l : List β) (b : β) : (l ++ [b]).foldl f a = f (l.foldl f a) b := by simp
theorem foldl_app {α β : Type} (f : α → β → α) (a : α) (l m : List β) : (l ++ m).foldl f a = m.foldl f (l.foldl f a) := by simp
def fold (r : Nat) (l : List UInt8) : Nat := l.foldl byteStep r
theorem fold_lt : ∀ (l : List UInt8) {r : Nat}, r < 4294967296 → fold r l < 4294967296
  | [], _, h => h
  | b :: l, _, h => fold_lt l (byteStep_lt b h)
theorem fold_snoc (r : Nat) (l : List UInt8) (b : UInt8) : fold r (l ++ [b]) = byteStep (fold r l) b := by simp [fold]
theorem fold_append (r : Nat) (l m : List UInt8) : fold r (l ++ m) = fold (fold r l) m := by simp [fold]
theorem fold_inj : ∀ (l : List UInt8) {a b : Nat}, a < 4294967296 → b < 4294967296 → fold a l = fold b l → a = b
  | [], _, _, _, _, h => h
  | x :: l, _, _, ha, hb, h => xor_cancel (stepN_inj 8 (xorb_lt x ha) (xorb_lt x hb) (fold_inj l (byteStep_lt x ha) (byteStep_lt x hb) h))
theorem byteStep_inj {r : Nat} {x y : UInt8} (h : r < 4294967296) (he : byteStep r x = byteStep r y) : x = y :=
  UInt8.toNat_inj.1 (xor_cancel_left (stepN_inj 8 (xorb_lt x h) (xorb_lt y h) he))
def upd (c : Nat) (l : List UInt8) : Nat := 4294967295 - fold (4294967295 - c) l
theorem upd_lt (c : Nat) (l : List UInt8) : upd c l < 4294967296 := by unfold upd; omega
theorem upd_append {c : Nat} (l m : List UInt8) : upd (upd c l) m = upd c (l ++ m) := by
  unfold upd
  have := fold_lt l (r := 4294967295 - c) (by omega)
  rw [fold_append, show 4294967295 - (4294967295 - fold (4294967295 - c) l) = fold (4294967295 - c) l by omega]
theorem upd_nil {c : Nat} (h : c < 4294967296) : upd c [] = c := by
  unfold upd fold
  simp only [List.foldl_nil]
  omega
/-- a change of one byte changes the checksum -/
theorem upd_change {c : Nat} (l m : List UInt8) {x y : UInt8} (h : x ≠ y) : upd c (l ++ x :: m) ≠ upd c (l ++ y :: m) := by
  intro he
  unfold upd at he
  have hl := fold_lt l (r := 4294967295 - c) (by omega)
  have h1 := fold_lt (l ++ x :: m) (r := 4294967295 - c) (by omega)
  have h2 := fold_lt (l ++ y :: m) (r := 4294967295 - c) (by omega)
  have h3 : fold (4294967295 - c) (l ++ x :: m) = fold (4294967295 - c) (l ++ y :: m) := by omega
  rw [fold_append, fold_append] at h3
  exact h (byteStep_inj hl (fold_inj m (byteStep_lt x hl) (byteStep_lt y hl) h3))

/-- FNV-1a -/
def fnv1 (h : Nat) (b : UInt8) : Nat := (h ^^^ b.toNat) * 1099511628211 % 18446744073709551616
def fnv (h : Nat) (l : List UInt8) : Nat := l.foldl fnv1 h
theorem fnv1_lt (h : Nat) (b : UInt8) : fnv1 h b < 18446744073709551616 := by
  unfold fnv1
  exact Nat.mod_lt _ (by omega)
theorem fnv_lt : ∀ (l : List UInt8) {h : Nat}, h < 18446744073709551616 → fnv h l < 18446744073709551616
  | [], _, h => h
  | b :: l, _, _ => fnv_lt l (fnv1_lt _ b)
theorem fnv_snoc (h : Nat) (l : List UInt8) (b : UInt8) : fnv h (l ++ [b]) = fnv1 (fnv h l) b := foldl_snoc fnv1 h l b
theorem fnv_append (h : Nat) (l m : List UInt8) : fnv h (l ++ m) = fnv (fnv h l) m := foldl_app fnv1 h l m
theorem xorb64_lt {r : Nat} (b : UInt8) (h : r < 18446744073709551616) : r ^^^ b.toNat < 18446744073709551616 :=
  Nat.xor_lt_two_pow (n := 64) h (by have := b.toNat_lt; omega)
/-- multiplication by the prime can be undone -/
theorem mul_inj {a b : Nat} (ha : a < 18446744073709551616) (hb : b < 18446744073709551616) (h : a * 1099511628211 % 18446744073709551616 = b * 1099511628211 % 18446744073709551616) : a = b := by
  have key : ∀ x : Nat, x < 18446744073709551616 → (x * 1099511628211 % 18446744073709551616) * 14886173955864302971 % 18446744073709551616 = x := by
    intro x hx
    rw [Nat.mod_mul_mod, Nat.mul_assoc, show 1099511628211 * 14886173955864302971 = 887285111055 * 18446744073709551616 + 1 by decide]
    rw [Nat.mul_add, Nat.mul_one, ← Nat.mul_assoc, Nat.add_comm, Nat.add_mul_mod_self_right, Nat.mod_eq_of_lt hx]
  rw [← key a ha, ← key b hb, h]
theorem fnv1_inj_left {a b : Nat} (x : UInt8) (ha : a < 18446744073709551616) (hb : b < 18446744073709551616) (h : fnv1 a x = fnv1 b x) : a = b :=
  xor_cancel (mul_inj (xorb64_lt x ha) (xorb64_lt x hb) h)
theorem fnv1_inj_right {a : Nat} {x y : UInt8} (ha : a < 18446744073709551616) (h : fnv1 a x = fnv1 a y) : x = y :=
  UInt8.toNat_inj.1 (xor_cancel_left (mul_inj (xorb64_lt x ha) (xorb64_lt y ha) h))
theorem fnv_inj : ∀ (l : List UInt8) {a b : Nat}, a < 18446744073709551616 → b < 18446744073709551616 → fnv a l = fnv b l → a = b
  | [], _, _, _, _, h => h
  | x :: l, _, _, ha, hb, h => fnv1_inj_left x ha hb (fnv_inj l (fnv1_lt _ x) (fnv1_lt _ x) h)
theorem fnv_change {c : Nat} (hc : c < 18446744073709551616) (l m : List UInt8) {x y : UInt8} (h : x ≠ y) : fnv c (l ++ x :: m) ≠ fnv c (l ++ y :: m) := by
  intro he
  rw [fnv_append, fnv_append] at he
  have hl := fnv_lt l hc
  exact h (fnv1_inj_right hl (fnv_inj m (fnv1_lt _ x) (fnv1_lt _ y) he))
end Sum
end Go.Proofs.Ytnnakikhfacnpaa
