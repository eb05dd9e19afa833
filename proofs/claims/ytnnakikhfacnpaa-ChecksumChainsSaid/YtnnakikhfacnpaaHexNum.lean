/- Plain numbers: hexadecimal digits. -/
namespace Go.Proofs.Ytnnakikhfacnpaa
namespace Sum
def hexb (d : Nat) : UInt8 := if d < 10 then UInt8.ofNat (48 + d) else UInt8.ofNat (87 + d)
def hv (b : UInt8) : Option Nat := if 48 ≤ b.toNat ∧ b.toNat ≤ 57 then some (b.toNat - 48) else if 97 ≤ b.toNat ∧ b.toNat ≤ 102 then some (b.toNat - 87) else none
def hexL (x : Nat) : Nat → List UInt8
  | 0 => []
  | k + 1 => hexb (x / 16 ^ k % 16) :: hexL x k
theorem hexL_length (x : Nat) : ∀ k, (hexL x k).length = k
  | 0 => rfl
  | k + 1 => by simp [hexL, hexL_length x k]
def unh (acc : Nat) : List UInt8 → Option Nat
  | [] => some acc
  | b :: l => match hv b with
    | none => none
    | some d => unh (acc * 16 + d) l
theorem hv_hexb {d : Nat} (h : d < 16) : hv (hexb d) = some d := by
  have : ∀ d : Fin 16, hv (hexb d.val) = some d.val := by decide
  exact this ⟨d, h⟩
theorem hexb_hv {b : UInt8} {d : Nat} (h : hv b = some d) : d < 16 ∧ hexb d = b := by
  unfold hv at h
  split at h
  · rename_i hb
    simp at h
    subst h
    refine ⟨by omega, ?_⟩
    unfold hexb
    rw [if_pos (by omega), show 48 + (b.toNat - 48) = b.toNat by omega]
    exact UInt8.ofNat_toNat
  · split at h
    · rename_i hb
      simp at h
      subst h
      refine ⟨by omega, ?_⟩
      unfold hexb
      rw [if_neg (by omega), show 87 + (b.toNat - 87) = b.toNat by omega]
      exact UInt8.ofNat_toNat
    · cases h
theorem unh_hexL (x : Nat) : ∀ (k acc : Nat), unh acc (hexL x k) = some (acc * 16 ^ k + x % 16 ^ k)
  | 0, acc => by simp [unh, hexL, Nat.mod_one]
  | k + 1, acc => by
    simp only [hexL, unh, hv_hexb (Nat.mod_lt _ (by decide : 0 < 16))]
    rw [unh_hexL x k]
    congr 1
    rw [Nat.pow_succ, Nat.mod_mul, Nat.add_mul, Nat.mul_assoc acc, Nat.mul_comm 16 (16 ^ k), Nat.mul_comm (x / 16 ^ k % 16)]
    omega
theorem unh_some {m : Nat} : ∀ (l : List UInt8) (acc : Nat), unh acc l = some m → ∃ v, v < 16 ^ l.length ∧ m = acc * 16 ^ l.length + v ∧ hexL m l.length = l
  | [], acc, h => by
    simp [unh] at h
    exact ⟨0, by simp, by simp [h], rfl⟩
  | b :: l, acc, h => by
    unfold unh at h
    split at h
    · cases h
    · rename_i d hd
      obtain ⟨hd16, hb⟩ := hexb_hv hd
      obtain ⟨v, hv, hm, hl⟩ := unh_some l _ h
      have hp : 0 < 16 ^ l.length := Nat.pow_pos (by decide)
      refine ⟨d * 16 ^ l.length + v, ?_, ?_, ?_⟩
      · rw [List.length_cons, Nat.pow_succ]
        have : d * 16 ^ l.length ≤ 15 * 16 ^ l.length := Nat.mul_le_mul_right _ (by omega)
        omega
      · rw [hm, List.length_cons, Nat.pow_succ, Nat.add_mul, Nat.mul_assoc acc, Nat.mul_comm 16 (16 ^ l.length)]
        omega
      · rw [List.length_cons]
        unfold hexL
        rw [hl]
        have hq : m / 16 ^ l.length = acc * 16 + d := by
          rw [hm, Nat.mul_comm (acc * 16 + d), Nat.mul_add_div hp, Nat.div_eq_of_lt hv]
          rfl
        rw [hq, show (acc * 16 + d) % 16 = d by omega, hb]
theorem hex_unhex {m : Nat} {l : List UInt8} (hl : l.length = 16) (h : unh 0 l = some m) : hexL m 16 = l := by
  obtain ⟨v, _, _, h3⟩ := unh_some l 0 h
  rw [← hl]; exact h3
theorem unhex_hex {x : Nat} (h : x < 18446744073709551616) : unh 0 (hexL x 16) = some x := by
  rw [unh_hexL x 16 0, Nat.mod_eq_of_lt (by omega)]
  congr 1
  omega
/-- the reference's search -/
def fdTo (b : UInt8) : Nat → Int
  | 0 => -1
  | k + 1 => if b = hexb k then (k : Int) else fdTo b k
def hvI (b : UInt8) : Int := match hv b with
  | none => -1
  | some d => d
set_option maxRecDepth 100000 in
theorem fd16 (b : UInt8) : fdTo b 16 = hvI b := by
  have : ∀ n : Fin 256, fdTo (UInt8.ofNat n.val) 16 = hvI (UInt8.ofNat n.val) := by decide +kernel
  have h := this ⟨b.toNat, b.toNat_lt⟩
  simpa using h
theorem unh_snoc {b : UInt8} : ∀ (l : List UInt8) (acc : Nat), unh acc (l ++ [b]) = match unh acc l with
    | none => none
    | some y => match hv b with
      | none => none
      | some d => some (y * 16 + d)
  | [], acc => by
    simp only [List.nil_append, unh]
  | c :: l, acc => by
    simp only [List.cons_append, unh]
    cases hv c with
    | none => rfl
    | some d => exact unh_snoc l _
theorem unh_lt {y : Nat} (l : List UInt8) (h : unh 0 l = some y) : y < 16 ^ l.length := by
  obtain ⟨v, hv, hm, _⟩ := unh_some l 0 h
  omega
theorem unh_app_none : ∀ (l m : List UInt8) (acc : Nat), unh acc l = none → unh acc (l ++ m) = none
  | [], _, _, h => by simp [unh] at h
  | c :: l, m, acc, h => by
    simp only [List.cons_append]
    unfold unh at h ⊢
    cases hc : hv c with
    | none => rfl
    | some d =>
      rw [hc] at h
      exact unh_app_none l m _ h
end Sum
end Go.Proofs.Ytnnakikhfacnpaa
