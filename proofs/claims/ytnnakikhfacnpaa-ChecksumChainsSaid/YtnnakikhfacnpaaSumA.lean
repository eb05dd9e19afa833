/- Bytes of a string in memory; what a changed byte does. -/
import Derived.Test.YtnnakikhfacnpaaSum9
import Derived.Laws.IdiomStrings
namespace Go.Proofs.Ytnnakikhfacnpaa
open Go.ChangeShapes Go.WideShapes Go.ChangeAt Go.RowKit
namespace Sum
/-- block b begins with the bytes l -/
structure BRow (w : World) (b : Nat) (l : List UInt8) : Prop where
  cell : ∀ (j : Nat) (h : j < l.length), w.cell? ⟨b, j, none⟩ = some (.int .u8 (l[j].toNat : Int))
  free : ∀ (j : Nat), j < l.length → w.frozen? ⟨b, j, none⟩ = false
theorem BRow.below {B : Nat} {w w1 : World} {b : Nat} {l : List UInt8} (h : BRow w b l) (hb : Below B w w1) (hB : b < B) : BRow w1 b l :=
  ⟨fun j hj => (hb.cell (p := ⟨b, j, none⟩) hB).trans (h.cell j hj), fun j hj => (hb.frozen (p := ⟨b, j, none⟩) hB).trans (h.free j hj)⟩
theorem BRow.set {w : World} {b : Nat} {l : List UInt8} (h : BRow w b l) (k : Nat) (hk : k < l.length) (x : UInt8) (v : Int) (hv : v = (x.toNat : Int)) : BRow (w.setCell ⟨b, k, none⟩ (.int .u8 v)) b (l.set k x) := by
  subst hv
  refine ⟨fun j hj => ?_, fun j hj => (World.frozen?_setCell _ _ _ _).trans (h.free j (by simpa using hj))⟩
  have hj' : j < l.length := by simpa using hj
  by_cases e : j = k
  · subst e
    rw [World.cell?_setCell_same w ⟨b, j, none⟩ _ (h.cell j hj')]
    simp
  · have h1 : (w.setCell ⟨b, k, none⟩ (.int .u8 (x.toNat : Int))).cell? ⟨b, j, none⟩ = w.cell? ⟨b, j, none⟩ := World.cell?_setCell_other w _ _ _ (fun e2 => e (by injection e2 with _ e3; exact e3.symm))
    rw [h1, h.cell j hj']
    simp [List.getElem_set_ne (Ne.symm e)]
theorem BRow.back {w : World} {b : Nat} {l : List UInt8} (h : BRow w b l) (n cap : Nat) (hn : n = l.length) : (convert 49 9 (.slice (some ⟨b, 0, none⟩) n cap)).run Try.prog w = .ok (.string ⟨l.toArray⟩) w := by
  subst hn
  refine run_convert_bytes_back (P := Try.prog) w 49 9 5 ⟨b, 0, none⟩ cap l (by kernel_rfl) (by kernel_rfl) (by kernel_rfl) ?_
  intro j hj
  have e : (⟨b, 0, none⟩ : Addr).add j = ⟨b, j, none⟩ := by unfold Addr.add; split <;> simp_all
  rw [e]; exact h.cell j hj
theorem bytes_of (w : World) (t : ByteArray) : ∃ cap W, (convert 9 49 (.string t)).run Try.prog w = .ok (.slice (some ⟨w.heap.size, 0, none⟩) t.size cap) W ∧ Below w.heap.size w W ∧ BRow W w.heap.size t.data.toList ∧ w.heap.size < W.heap.size := by
  refine ⟨_, _, run_bytes_of_string (P := Try.prog) w 9 49 5 t (by kernel_rfl) (by kernel_rfl) (by kernel_rfl), ((Below.refl _ _).drew).alloc (Nat.le_refl _) _, ?_, ?_⟩
  · generalize grownCap w t.size 0 5 = cap
    have hb : ∀ o, (w.drew.alloc o).heap[w.heap.size]? = some o := fun o => by
      show (w.heap.push o)[w.heap.size]? = _
      simp
    constructor
    · intro j hj
      rw [cell_of_row _ _ j _ _ _ (hb _)]
      rw [bytesRow_at t cap j (by simpa using hj)]
      simp
    · intro j hj
      have hj' : j < t.data.size := by simpa using hj
      simp only [World.frozen?, hb]
      have : t.data.size ≤ (bytesRow t cap).size := by simp [bytesRow]
      simp
      omega
  · show w.heap.size < (w.heap.push _).size
    simp

theorem lowL_inj {a b : Nat} (ha : a < 4294967296) (hb : b < 4294967296) (h : lowL a 4 = lowL b 4) : a = b := by
  have h2 : [UInt8.ofNat (a / 256 ^ 0 % 256), UInt8.ofNat (a / 256 ^ 1 % 256), UInt8.ofNat (a / 256 ^ 2 % 256), UInt8.ofNat (a / 256 ^ 3 % 256)] = [UInt8.ofNat (b / 256 ^ 0 % 256), UInt8.ofNat (b / 256 ^ 1 % 256), UInt8.ofNat (b / 256 ^ 2 % 256), UInt8.ofNat (b / 256 ^ 3 % 256)] := h
  have key : ∀ x y : Nat, UInt8.ofNat (x % 256) = UInt8.ofNat (y % 256) → x % 256 = y % 256 := by
    intro x y e
    have := congrArg UInt8.toNat e
    simpa using this
  simp only [List.cons.injEq, and_true] at h2
  obtain ⟨e0, e1, e2, e3⟩ := h2
  have k0 := key _ _ e0
  have k1 := key _ _ e1
  have k2 := key _ _ e2
  have k3 := key _ _ e3
  simp only [Nat.pow_zero, Nat.div_one, Nat.pow_one, show (256 : Nat) ^ 2 = 65536 from rfl, show (256 : Nat) ^ 3 = 16777216 from rfl] at k0 k1 k2 k3
  omega
theorem set_split {l : List UInt8} {k : Nat} (hk : k < l.length) (x : UInt8) : l = l.take k ++ l[k] :: l.drop (k + 1) ∧ l.set k x = l.take k ++ x :: l.drop (k + 1) := by
  constructor
  · rw [List.getElem_cons_drop, List.take_append_drop]
  · rw [List.set_eq_take_append_cons_drop, if_pos hk]
theorem upd_set {c : Nat} {l : List UInt8} {k : Nat} (hk : k < l.length) {x : UInt8} (hx : l[k] ≠ x) : upd c (l.set k x) ≠ upd c l := by
  obtain ⟨h1, h2⟩ := set_split hk x
  rw [h2]
  intro h
  rw [h1] at h
  refine upd_change (c := c) (l.take k) (l.drop (k + 1)) (x := x) (y := l[k]) (Ne.symm hx) ?_
  rw [← h1] at h
  rw [h]
  exact congrArg (upd c) h1
theorem fnv_set {c : Nat} (hc : c < 18446744073709551616) {p l : List UInt8} {k : Nat} (hk : k < l.length) {x : UInt8} (hx : l[k] ≠ x) : fnv c (p ++ l.set k x) ≠ fnv c (p ++ l) := by
  obtain ⟨h1, h2⟩ := set_split hk x
  rw [h2]
  intro h
  refine fnv_change hc (p ++ l.take k) (l.drop (k + 1)) (x := x) (y := l[k]) (Ne.symm hx) ?_
  rw [List.append_assoc, List.append_assoc, h]
  exact congrArg (fun z => fnv c (p ++ z)) h1
/-- the sealed string with one byte changed -/
def chg (t : ByteArray) (k : Nat) (x : UInt8) : ByteArray := ⟨(t.data.toList.set k x).toArray⟩
theorem chg_size (t : ByteArray) (k : Nat) (x : UInt8) : (chg t k x).size = t.size := by
  unfold chg
  show (t.data.toList.set k x).toArray.size = t.data.size
  simp
theorem ext_list {a b : ByteArray} (h : a.data.toList = b.data.toList) : a = b := by
  apply ByteArray.ext
  exact Array.toList_inj.1 h
theorem opnV_seal (s : ByteArray) : opnV (sealS s) = (s, 0) := by
  have hz : (sealS s).size = 4 + s.size := by unfold sealS; rw [size_append, lowS_size]
  have e1 : (sealS s).extract 4 (sealS s).size = s := by
    rw [hz]; unfold sealS
    apply ext_list
    simp [lowS]
    rw [List.drop_eq_nil_of_le (by rw [lowL_length]; omega)]
    simp only [lowL_length, List.take_nil, List.nil_append]
    rw [show 4 - 4 = 0 from rfl, List.drop_zero, List.take_of_length_le (by simp)]
  have e2 : (sealS s).extract 0 4 = lowS (upd 0 s.data.toList) 4 := by
    unfold sealS
    exact ByteArray.extract_append_eq_left (by rw [lowS_size])
  unfold opnV
  rw [if_neg (by omega), e1, e2, if_pos rfl]
theorem opnV_chg (s : ByteArray) (k : Nat) (hk : k < (sealS s).size) (x : UInt8) (hx : (sealS s).data.toList[k]'(by simpa using hk) ≠ x) : opnV (chg (sealS s) k x) = (⟨#[]⟩, 11) := by
  have hz : (sealS s).size = 4 + s.size := by unfold sealS; rw [size_append, lowS_size]
  have hc : (chg (sealS s) k x).size = 4 + s.size := by rw [chg_size, hz]
  have hl : (sealS s).data.toList = lowL (upd 0 s.data.toList) 4 ++ s.data.toList := by simp [sealS, lowS]
  have hlen : (lowL (upd 0 s.data.toList) 4).length = 4 := lowL_length _ _
  unfold opnV
  rw [if_neg (by omega), if_neg]
  intro h
  have h1 := congrArg (fun z : ByteArray => z.data.toList) h
  have ea : ((chg (sealS s) k x).extract 4 (chg (sealS s) k x).size).data.toList = ((sealS s).data.toList.set k x).drop 4 := by
    rw [hc]; simp [chg]
    rw [List.take_of_length_le]
    simp [hz]
  have eb : ((chg (sealS s) k x).extract 0 4).data.toList = ((sealS s).data.toList.set k x).take 4 := by simp [chg]
  simp only [ea, eb] at h1
  have h2 : lowL (upd 0 (((sealS s).data.toList.set k x).drop 4)) 4 = ((sealS s).data.toList.set k x).take 4 := by simpa [lowS] using h1
  by_cases h4 : k < 4
  · have ed : ((sealS s).data.toList.set k x).drop 4 = s.data.toList := by
      rw [hl, List.set_append_left _ _ (by omega), List.drop_left' (by simp [hlen])]
    have et : ((sealS s).data.toList.set k x).take 4 = (lowL (upd 0 s.data.toList) 4).set k x := by
      rw [hl, List.set_append_left _ _ (by omega), List.take_left' (by simp [hlen])]
    rw [ed, et] at h2
    have h3 : (lowL (upd 0 s.data.toList) 4)[k]'(by omega) = x := by
      have := congrArg (fun z : List UInt8 => z[k]?) h2
      simp only [List.getElem?_set_self (show k < (lowL (upd 0 s.data.toList) 4).length by omega)] at this
      rw [List.getElem?_eq_getElem (by omega)] at this
      injection this
    apply hx
    have : (sealS s).data.toList[k]'(by simpa using hk) = (lowL (upd 0 s.data.toList) 4 ++ s.data.toList)[k]'(by simp [hlen]; omega) := by simp [hl]
    rw [this, List.getElem_append_left (by omega), h3]
  · have ed : ((sealS s).data.toList.set k x).drop 4 = s.data.toList.set (k - 4) x := by
      rw [hl, List.set_append_right _ _ (by omega), List.drop_left' hlen, hlen]
    have et : ((sealS s).data.toList.set k x).take 4 = lowL (upd 0 s.data.toList) 4 := by
      rw [hl, List.set_append_right _ _ (by omega), List.take_left' hlen]
    rw [ed, et] at h2
    have hk2 : k - 4 < s.data.toList.length := by simp; omega
    refine upd_set (c := 0) hk2 ?_ (lowL_inj (upd_lt _ _) (upd_lt _ _) h2)
    intro e
    apply hx
    have : (sealS s).data.toList[k]'(by simpa using hk) = (lowL (upd 0 s.data.toList) 4 ++ s.data.toList)[k]'(by simp [hlen]; omega) := by simp [hl]
    rw [this, List.getElem_append_right (by omega)]
    simpa [hlen] using e
theorem chain_chg {p : Nat} {s : ByteArray} {k : Nat} (hk : k < s.size) {x : UInt8} (hx : s.data.toList[k]'(by simpa using hk) ≠ x) : chain p (chg s k x) ≠ chain p s := by
  unfold chain chS
  rw [chg_size]
  have e : ∀ t : ByteArray, (lowS p 8 ++ lowS s.size 8 ++ t).data.toList = (lowL p 8 ++ lowL s.size 8) ++ t.data.toList := by intro t; simp [lowS]
  rw [e, e]
  exact fnv_set (by omega) (by simpa using hk) hx
end Sum
end Go.Proofs.Ytnnakikhfacnpaa
