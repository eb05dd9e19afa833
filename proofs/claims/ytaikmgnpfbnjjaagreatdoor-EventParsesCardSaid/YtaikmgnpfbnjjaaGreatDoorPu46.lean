/- The chapter's examples hold. Printed by gen_evb1.py. -/
import Derived.Test.YtaikmgnpfbnjjaaGreatDoorPu43
import Derived.Test.YtaikmgnpfbnjjaaGreatDoorPu44
import Derived.Test.YtaikmgnpfbnjjaaGreatDoorPu45
namespace Go.Proofs.YtaikmgnpfbnjjaaGreatDoor.Ev
open Go.ChangeShapes Go.WideShapes Go.ChangeAt Go.RowKit Gn Cat Lex Ros Se
set_option linter.unusedVariables false
set_option linter.unusedSimpArgs false
theorem sl_blk {w : World} {g : Nat} {t : TypeId} {n st : Nat} {xs : List Value} (h : Blk w g t xs.toArray) (hn : xs.length = n * st) (hm : n ≤ maxLen) : Sl w st (.slice (some ⟨g, 0, none⟩) n n) n xs := by
  refine ⟨hn, _, _, rfl, Nat.le_refl _, hm, fun _ => ⟨g, 0, rfl, h.lt, fun j u hu => ?_⟩⟩
  rw [Nat.zero_add, h.cell j]
  simpa using hu
abbrev SaleW (w : World) (b1 b2 : Nat) : Prop := SetW w (.slice (some ⟨b1, 0, none⟩) 1 1) (.slice (some ⟨b2, 0, none⟩) 1 1) (.slice none 0 0) (.slice none 0 0) saleS
theorem sale_of {w : World} {b1 b2 : Nat} (h1 : Blk w b1 98 #[.string ⟨#[97]⟩, .int .i64 2, .int .i64 0, .int .i64 0, .int .i64 0]) (h2 : Blk w b2 67 #[.string ⟨#[120]⟩, .int .i64 0, .int .i64 0, .int .i64 0]) : SaleW w b1 b2 :=
  ⟨sl_blk h1 rfl (by decide), sl_blk h2 rfl (by decide), Sl.nil w 3, Sl.nil w 3, by decide, by decide, by decide, by decide, (fun p hp => by unfold maxLen; simp [saleS] at hp; subst hp; decide), fun p hp => by unfold maxLen; simp [saleS] at hp; subst hp; decide⟩
theorem none_of (w : World) : SetW w (.slice none 0 0) (.slice none 0 0) (.slice none 0 0) (.slice none 0 0) SetD.none :=
  ⟨Sl.nil w 5, Sl.nil w 4, Sl.nil w 3, Sl.nil w 3, by decide, by decide, by decide, by decide, (fun p hp => by simp [SetD.none] at hp), fun p hp => by simp [SetD.none] at hp⟩
theorem val_of {e : Evt} {k b r p0 : Int} {t : ByteArray} {d : Nat} (h : e.kind = k ∧ e.bidder = b ∧ e.round = r ∧ e.want 0 = p0 ∧ e.want 1 = 0 ∧ e.want 2 = 0 ∧ e.want 3 = 0 ∧ e.want 4 = 0 ∧ e.want 5 = 0 ∧ e.text = t ∧ e.digest = d) : e.val = .agg #[.int .i64 k, .int .i64 b, .int .i64 r, .int .i64 p0, .int .i64 0, .int .i64 0, .int .i64 0, .int .i64 0, .int .i64 0, .string t, .int .u64 (d : Int)] := by
  obtain ⟨h1, h2, h3, h4, h5, h6, h7, h8, h9, h10, h11⟩ := h
  unfold Evt.val
  rw [h1, h2, h3, h4, h5, h6, h7, h8, h9, h10, h11]
theorem x_dec : (decodeV exW).2 = 0 ∧ ((decodeV exW).1.kind = 2 ∧ (decodeV exW).1.bidder = 1 ∧ (decodeV exW).1.round = 0 ∧ (decodeV exW).1.want 0 = 1 ∧ (decodeV exW).1.want 1 = 0 ∧ (decodeV exW).1.want 2 = 0 ∧ (decodeV exW).1.want 3 = 0 ∧ (decodeV exW).1.want 4 = 0 ∧ (decodeV exW).1.want 5 = 0 ∧ (decodeV exW).1.text = ⟨#[]⟩ ∧ (decodeV exW).1.digest = 0) := by decide +kernel
theorem x_p1 : (parseV saleS ⟨#[100, 101, 109, 97, 110, 100, 32, 120, 32, 123, 97, 58, 49, 125]⟩).2 = 0 ∧ ((parseV saleS ⟨#[100, 101, 109, 97, 110, 100, 32, 120, 32, 123, 97, 58, 49, 125]⟩).1.kind = 2 ∧ (parseV saleS ⟨#[100, 101, 109, 97, 110, 100, 32, 120, 32, 123, 97, 58, 49, 125]⟩).1.bidder = 0 ∧ (parseV saleS ⟨#[100, 101, 109, 97, 110, 100, 32, 120, 32, 123, 97, 58, 49, 125]⟩).1.round = 0 ∧ (parseV saleS ⟨#[100, 101, 109, 97, 110, 100, 32, 120, 32, 123, 97, 58, 49, 125]⟩).1.want 0 = 1 ∧ (parseV saleS ⟨#[100, 101, 109, 97, 110, 100, 32, 120, 32, 123, 97, 58, 49, 125]⟩).1.want 1 = 0 ∧ (parseV saleS ⟨#[100, 101, 109, 97, 110, 100, 32, 120, 32, 123, 97, 58, 49, 125]⟩).1.want 2 = 0 ∧ (parseV saleS ⟨#[100, 101, 109, 97, 110, 100, 32, 120, 32, 123, 97, 58, 49, 125]⟩).1.want 3 = 0 ∧ (parseV saleS ⟨#[100, 101, 109, 97, 110, 100, 32, 120, 32, 123, 97, 58, 49, 125]⟩).1.want 4 = 0 ∧ (parseV saleS ⟨#[100, 101, 109, 97, 110, 100, 32, 120, 32, 123, 97, 58, 49, 125]⟩).1.want 5 = 0 ∧ (parseV saleS ⟨#[100, 101, 109, 97, 110, 100, 32, 120, 32, 123, 97, 58, 49, 125]⟩).1.text = ⟨#[]⟩ ∧ (parseV saleS ⟨#[100, 101, 109, 97, 110, 100, 32, 120, 32, 123, 97, 58, 49, 125]⟩).1.digest = 0) := by decide +kernel
theorem x_p2 : (parseV saleS ⟨#[100, 101, 109, 97, 110, 100, 32, 121, 32, 123, 97, 58, 49, 125]⟩).2 = 6 ∧ ((parseV saleS ⟨#[100, 101, 109, 97, 110, 100, 32, 121, 32, 123, 97, 58, 49, 125]⟩).1.kind = 0 ∧ (parseV saleS ⟨#[100, 101, 109, 97, 110, 100, 32, 121, 32, 123, 97, 58, 49, 125]⟩).1.bidder = 0 ∧ (parseV saleS ⟨#[100, 101, 109, 97, 110, 100, 32, 121, 32, 123, 97, 58, 49, 125]⟩).1.round = 0 ∧ (parseV saleS ⟨#[100, 101, 109, 97, 110, 100, 32, 121, 32, 123, 97, 58, 49, 125]⟩).1.want 0 = 0 ∧ (parseV saleS ⟨#[100, 101, 109, 97, 110, 100, 32, 121, 32, 123, 97, 58, 49, 125]⟩).1.want 1 = 0 ∧ (parseV saleS ⟨#[100, 101, 109, 97, 110, 100, 32, 121, 32, 123, 97, 58, 49, 125]⟩).1.want 2 = 0 ∧ (parseV saleS ⟨#[100, 101, 109, 97, 110, 100, 32, 121, 32, 123, 97, 58, 49, 125]⟩).1.want 3 = 0 ∧ (parseV saleS ⟨#[100, 101, 109, 97, 110, 100, 32, 121, 32, 123, 97, 58, 49, 125]⟩).1.want 4 = 0 ∧ (parseV saleS ⟨#[100, 101, 109, 97, 110, 100, 32, 121, 32, 123, 97, 58, 49, 125]⟩).1.want 5 = 0 ∧ (parseV saleS ⟨#[100, 101, 109, 97, 110, 100, 32, 121, 32, 123, 97, 58, 49, 125]⟩).1.text = ⟨#[]⟩ ∧ (parseV saleS ⟨#[100, 101, 109, 97, 110, 100, 32, 121, 32, 123, 97, 58, 49, 125]⟩).1.digest = 0) := by decide +kernel
theorem x_p3 : (parseV saleS ⟨#[100, 101, 109, 97, 110, 100, 32, 120]⟩).2 = 2 ∧ ((parseV saleS ⟨#[100, 101, 109, 97, 110, 100, 32, 120]⟩).1.kind = 0 ∧ (parseV saleS ⟨#[100, 101, 109, 97, 110, 100, 32, 120]⟩).1.bidder = 0 ∧ (parseV saleS ⟨#[100, 101, 109, 97, 110, 100, 32, 120]⟩).1.round = 0 ∧ (parseV saleS ⟨#[100, 101, 109, 97, 110, 100, 32, 120]⟩).1.want 0 = 0 ∧ (parseV saleS ⟨#[100, 101, 109, 97, 110, 100, 32, 120]⟩).1.want 1 = 0 ∧ (parseV saleS ⟨#[100, 101, 109, 97, 110, 100, 32, 120]⟩).1.want 2 = 0 ∧ (parseV saleS ⟨#[100, 101, 109, 97, 110, 100, 32, 120]⟩).1.want 3 = 0 ∧ (parseV saleS ⟨#[100, 101, 109, 97, 110, 100, 32, 120]⟩).1.want 4 = 0 ∧ (parseV saleS ⟨#[100, 101, 109, 97, 110, 100, 32, 120]⟩).1.want 5 = 0 ∧ (parseV saleS ⟨#[100, 101, 109, 97, 110, 100, 32, 120]⟩).1.text = ⟨#[]⟩ ∧ (parseV saleS ⟨#[100, 101, 109, 97, 110, 100, 32, 120]⟩).1.digest = 0) := by decide +kernel
theorem x_p4 : (parseV SetD.none ⟨#[115, 97, 108, 101, 32, 112, 114, 111, 100, 117, 99, 116, 32, 97, 32, 49, 32, 48, 32, 49, 32, 48, 59, 98, 105, 100, 100, 101, 114, 32, 120, 32, 48, 32, 48, 32, 49]⟩).2 = 0 ∧ ((parseV SetD.none ⟨#[115, 97, 108, 101, 32, 112, 114, 111, 100, 117, 99, 116, 32, 97, 32, 49, 32, 48, 32, 49, 32, 48, 59, 98, 105, 100, 100, 101, 114, 32, 120, 32, 48, 32, 48, 32, 49]⟩).1.kind = 1 ∧ (parseV SetD.none ⟨#[115, 97, 108, 101, 32, 112, 114, 111, 100, 117, 99, 116, 32, 97, 32, 49, 32, 48, 32, 49, 32, 48, 59, 98, 105, 100, 100, 101, 114, 32, 120, 32, 48, 32, 48, 32, 49]⟩).1.bidder = 0 ∧ (parseV SetD.none ⟨#[115, 97, 108, 101, 32, 112, 114, 111, 100, 117, 99, 116, 32, 97, 32, 49, 32, 48, 32, 49, 32, 48, 59, 98, 105, 100, 100, 101, 114, 32, 120, 32, 48, 32, 48, 32, 49]⟩).1.round = 0 ∧ (parseV SetD.none ⟨#[115, 97, 108, 101, 32, 112, 114, 111, 100, 117, 99, 116, 32, 97, 32, 49, 32, 48, 32, 49, 32, 48, 59, 98, 105, 100, 100, 101, 114, 32, 120, 32, 48, 32, 48, 32, 49]⟩).1.want 0 = 0 ∧ (parseV SetD.none ⟨#[115, 97, 108, 101, 32, 112, 114, 111, 100, 117, 99, 116, 32, 97, 32, 49, 32, 48, 32, 49, 32, 48, 59, 98, 105, 100, 100, 101, 114, 32, 120, 32, 48, 32, 48, 32, 49]⟩).1.want 1 = 0 ∧ (parseV SetD.none ⟨#[115, 97, 108, 101, 32, 112, 114, 111, 100, 117, 99, 116, 32, 97, 32, 49, 32, 48, 32, 49, 32, 48, 59, 98, 105, 100, 100, 101, 114, 32, 120, 32, 48, 32, 48, 32, 49]⟩).1.want 2 = 0 ∧ (parseV SetD.none ⟨#[115, 97, 108, 101, 32, 112, 114, 111, 100, 117, 99, 116, 32, 97, 32, 49, 32, 48, 32, 49, 32, 48, 59, 98, 105, 100, 100, 101, 114, 32, 120, 32, 48, 32, 48, 32, 49]⟩).1.want 3 = 0 ∧ (parseV SetD.none ⟨#[115, 97, 108, 101, 32, 112, 114, 111, 100, 117, 99, 116, 32, 97, 32, 49, 32, 48, 32, 49, 32, 48, 59, 98, 105, 100, 100, 101, 114, 32, 120, 32, 48, 32, 48, 32, 49]⟩).1.want 4 = 0 ∧ (parseV SetD.none ⟨#[115, 97, 108, 101, 32, 112, 114, 111, 100, 117, 99, 116, 32, 97, 32, 49, 32, 48, 32, 49, 32, 48, 59, 98, 105, 100, 100, 101, 114, 32, 120, 32, 48, 32, 48, 32, 49]⟩).1.want 5 = 0 ∧ (parseV SetD.none ⟨#[115, 97, 108, 101, 32, 112, 114, 111, 100, 117, 99, 116, 32, 97, 32, 49, 32, 48, 32, 49, 32, 48, 59, 98, 105, 100, 100, 101, 114, 32, 120, 32, 48, 32, 48, 32, 49]⟩).1.text = ⟨#[112, 114, 111, 100, 117, 99, 116, 32, 97, 32, 49, 32, 48, 32, 49, 32, 48, 10, 98, 105, 100, 100, 101, 114, 32, 120, 32, 48, 32, 48, 32, 49, 10]⟩ ∧ (parseV SetD.none ⟨#[115, 97, 108, 101, 32, 112, 114, 111, 100, 117, 99, 116, 32, 97, 32, 49, 32, 48, 32, 49, 32, 48, 59, 98, 105, 100, 100, 101, 114, 32, 120, 32, 48, 32, 48, 32, 49]⟩).1.digest = 0) := by decide +kernel
theorem e_enc (w : World) : Calls Tryz.prog 14 #[.agg #[.int .i64 2, .int .i64 1, .int .i64 0, .int .i64 1, .int .i64 0, .int .i64 0, .int .i64 0, .int .i64 0, .int .i64 0, .string ⟨#[]⟩, .int .u64 0]] w fun x w' => x = .returned (.tuple #[.string exW, .int .i64 0]) ∧ Below w.heap.size w w' := by
  have h := encode_any exD w (Nat.zero_le _) (by decide)
  rw [ex_enc] at h
  exact h
theorem e_dec (w : World) : Calls Tryz.prog 16 #[.string exW] w fun x w' => x = .returned (.tuple #[.agg #[.int .i64 2, .int .i64 1, .int .i64 0, .int .i64 1, .int .i64 0, .int .i64 0, .int .i64 0, .int .i64 0, .int .i64 0, .string ⟨#[]⟩, .int .u64 0], .int .i64 0]) ∧ Below w.heap.size w w' := by
  have h := decode_any exW w (by decide)
  unfold DecPost at h
  rw [val_of x_dec.2, x_dec.1] at h
  exact h
theorem e_p1 (w : World) (b1 b2 : Nat) (hs : SaleW w b1 b2) (hsh : Sh w) : Calls Tryz.prog 21 #[.agg #[.slice (some ⟨b1, 0, none⟩) 1 1, .slice (some ⟨b2, 0, none⟩) 1 1, .slice none 0 0, .slice none 0 0], .string ⟨#[100, 101, 109, 97, 110, 100, 32, 120, 32, 123, 97, 58, 49, 125]⟩] w fun x w' => x = .returned (.tuple #[.agg #[.int .i64 2, .int .i64 0, .int .i64 0, .int .i64 1, .int .i64 0, .int .i64 0, .int .i64 0, .int .i64 0, .int .i64 0, .string ⟨#[]⟩, .int .u64 0], .int .i64 0]) ∧ Below w.heap.size w w' := by
  have h := parse_any saleS ⟨#[100, 101, 109, 97, 110, 100, 32, 120, 32, 123, 97, 58, 49, 125]⟩ _ _ _ _ w hs hsh (by decide)
  unfold ParseP at h
  rw [val_of x_p1.2, x_p1.1] at h
  exact h
theorem e_p2 (w : World) (b1 b2 : Nat) (hs : SaleW w b1 b2) (hsh : Sh w) : Calls Tryz.prog 21 #[.agg #[.slice (some ⟨b1, 0, none⟩) 1 1, .slice (some ⟨b2, 0, none⟩) 1 1, .slice none 0 0, .slice none 0 0], .string ⟨#[100, 101, 109, 97, 110, 100, 32, 121, 32, 123, 97, 58, 49, 125]⟩] w fun x w' => x = .returned (.tuple #[.agg #[.int .i64 0, .int .i64 0, .int .i64 0, .int .i64 0, .int .i64 0, .int .i64 0, .int .i64 0, .int .i64 0, .int .i64 0, .string ⟨#[]⟩, .int .u64 0], .int .i64 6]) ∧ Below w.heap.size w w' := by
  have h := parse_any saleS ⟨#[100, 101, 109, 97, 110, 100, 32, 121, 32, 123, 97, 58, 49, 125]⟩ _ _ _ _ w hs hsh (by decide)
  unfold ParseP at h
  rw [val_of x_p2.2, x_p2.1] at h
  exact h
theorem e_p3 (w : World) (b1 b2 : Nat) (hs : SaleW w b1 b2) (hsh : Sh w) : Calls Tryz.prog 21 #[.agg #[.slice (some ⟨b1, 0, none⟩) 1 1, .slice (some ⟨b2, 0, none⟩) 1 1, .slice none 0 0, .slice none 0 0], .string ⟨#[100, 101, 109, 97, 110, 100, 32, 120]⟩] w fun x w' => x = .returned (.tuple #[.agg #[.int .i64 0, .int .i64 0, .int .i64 0, .int .i64 0, .int .i64 0, .int .i64 0, .int .i64 0, .int .i64 0, .int .i64 0, .string ⟨#[]⟩, .int .u64 0], .int .i64 2]) ∧ Below w.heap.size w w' := by
  have h := parse_any saleS ⟨#[100, 101, 109, 97, 110, 100, 32, 120]⟩ _ _ _ _ w hs hsh (by decide)
  unfold ParseP at h
  rw [val_of x_p3.2, x_p3.1] at h
  exact h
theorem e_p4 (w : World) (hsh : Sh w) : Calls Tryz.prog 21 #[.agg #[.slice none 0 0, .slice none 0 0, .slice none 0 0, .slice none 0 0], .string ⟨#[115, 97, 108, 101, 32, 112, 114, 111, 100, 117, 99, 116, 32, 97, 32, 49, 32, 48, 32, 49, 32, 48, 59, 98, 105, 100, 100, 101, 114, 32, 120, 32, 48, 32, 48, 32, 49]⟩] w fun x w' => x = .returned (.tuple #[.agg #[.int .i64 1, .int .i64 0, .int .i64 0, .int .i64 0, .int .i64 0, .int .i64 0, .int .i64 0, .int .i64 0, .int .i64 0, .string ⟨#[112, 114, 111, 100, 117, 99, 116, 32, 97, 32, 49, 32, 48, 32, 49, 32, 48, 10, 98, 105, 100, 100, 101, 114, 32, 120, 32, 48, 32, 48, 32, 49, 10]⟩, .int .u64 0], .int .i64 0]) ∧ Below w.heap.size w w' := by
  have h := parse_any SetD.none ⟨#[115, 97, 108, 101, 32, 112, 114, 111, 100, 117, 99, 116, 32, 97, 32, 49, 32, 48, 32, 49, 32, 48, 59, 98, 105, 100, 100, 101, 114, 32, 120, 32, 48, 32, 48, 32, 49]⟩ _ _ _ _ w (none_of w) hsh (by decide)
  unfold ParseP at h
  rw [val_of x_p4.2, x_p4.1] at h
  exact h
theorem e_fmt (w : World) (hsh : Sh w) : Calls Tryz.prog 19 #[.agg #[.slice none 0 0, .slice none 0 0, .slice none 0 0, .slice none 0 0], .agg #[.int .i64 1, .int .i64 0, .int .i64 0, .int .i64 0, .int .i64 0, .int .i64 0, .int .i64 0, .int .i64 0, .int .i64 0, .string ⟨#[112, 114, 111, 100, 117, 99, 116, 32, 97, 32, 49, 32, 48, 32, 49, 32, 48, 10, 98, 105, 100, 100, 101, 114, 32, 120, 32, 48, 32, 48, 32, 49, 10]⟩, .int .u64 0]] w (StrPost ⟨#[115, 97, 108, 101, 32, 112, 114, 111, 100, 117, 99, 116, 32, 97, 32, 49, 32, 48, 32, 49, 32, 48, 59, 98, 105, 100, 100, 101, 114, 32, 120, 32, 48, 32, 48, 32, 49]⟩ w) := by
  have h := format_any SetD.none ⟨1, 0, 0, zero6, exText, 0⟩ _ _ _ _ w (none_of w) hsh (by decide) (by decide)
  rw [ex_fmt] at h
  exact h
theorem e_n2 (w : World) : Calls Tryz.prog 11 #[.int .i64 2] w (StrPost ⟨#[100, 101, 109, 97, 110, 100]⟩ w) := by
  have h := name_any 2 w
  rw [ex_name.1] at h
  exact h
theorem e_n11 (w : World) : Calls Tryz.prog 11 #[.int .i64 11] w (StrPost ⟨#[]⟩ w) := by
  have h := name_any 11 w
  rw [ex_name.2] at h
  exact h
theorem e_chk (w : World) : Calls Tryz.prog 9 #[.agg #[.int .i64 3, .int .i64 0, .int .i64 1, .int .i64 0, .int .i64 0, .int .i64 0, .int .i64 0, .int .i64 0, .int .i64 0, .string ⟨#[]⟩, .int .u64 0]] w (ErrPost 2 w) := by
  have h := check_any ⟨3, 0, 1, zero6, ⟨#[]⟩, 0⟩ w (Nat.zero_le _) (by decide)
  rw [ex_check] at h
  exact h
theorem blk_second (w : World) (x z : Obj) (t : TypeId) (cs : Array Value) : Blk (((w.alloc x).alloc (.cells cs t)).alloc z) (w.heap.size + 1) t cs := by
  have h := Blk.new (w.alloc x) t cs
  rw [World.size_alloc] at h
  exact h.alloc _
set_option maxRecDepth 100000 in
theorem sale_any (w : World) : Calls Tryz.prog 31 #[] w fun x w' => ∃ b1 b2, x = .returned (.agg #[.slice (some ⟨b1, 0, none⟩) 1 1, .slice (some ⟨b2, 0, none⟩) 1 1, .slice none 0 0, .slice none 0 0]) ∧ SaleW w' b1 b2 ∧ Below w.heap.size w w' := by
  go_enter Tryz.func31, Tryz.ntmps31
  go_wp2_with fail
  exact bodyPost_ret (v := .agg #[.slice (some ⟨w.heap.size + 1, 0, none⟩) 1 1, .slice (some ⟨w.heap.size + 1 + 1, 0, none⟩) 1 1, .slice none 0 0, .slice none 0 0]) (results_blk rfl rfl (((Blk.new w 42 _).alloc _).alloc _) Tryz.underlying42 rfl (by kernel_rfl)) rfl ⟨_, _, rfl, sale_of (blk_second _ _ _ _ _) (blk_third _ _ _ _ _), below_three _ _ _ _⟩
set_option maxHeartbeats 8000000 in
set_option maxRecDepth 100000 in
theorem awake_any (w : World) (hsh : Sh w) : Calls Tryz.prog 13 #[] w fun e w' => e = .returned (.bool true) ∧ Below w.heap.size w w' := by
  have HSH := Lib.hid (fun W (b : Below w.heap.size w W) => sh_keep hsh b)
  have B0 := Lib.hid (Below.refl w.heap.size w)
  clear hsh
  go_enter Tryz.func13, Tryz.ntmps13
  go_wp2_with fail
  refine (e_enc _).mono ?_
  rintro x w1 ⟨rfl, d⟩
  have B1 := Lib.hid (chain0 B0.out d)
  clear d B0 
  go_wp2_with fail
  refine (e_dec _).mono ?_
  rintro x w2 ⟨rfl, d⟩
  have B2 := Lib.hid (chain0 B1.out d)
  clear d B1 
  have KA_3 := Lib.hid (Blk.new w2 26 #[.int .i64 2, .int .i64 1, .int .i64 0, .int .i64 1, .int .i64 0, .int .i64 0, .int .i64 0, .int .i64 0, .int .i64 0, .string ⟨#[]⟩, .int .u64 0])
  have B3 := Lib.hid (B2.out.alloc B2.out.size (.cells #[.int .i64 2, .int .i64 1, .int .i64 0, .int .i64 1, .int .i64 0, .int .i64 0, .int .i64 0, .int .i64 0, .int .i64 0, .string ⟨#[]⟩, .int .u64 0] 26))
  go_wp2_with fail
  generalize w2.alloc (.cells #[.int .i64 2, .int .i64 1, .int .i64 0, .int .i64 1, .int .i64 0, .int .i64 0, .int .i64 0, .int .i64 0, .int .i64 0, .string ⟨#[]⟩, .int .u64 0] 26) = w3 at *
  generalize w2.heap.size = ga at *
  clear B2 
  refine (sale_any _).mono ?_
  rintro x w4 ⟨b1, b2, rfl, sw, d⟩
  have B4 := Lib.hid (chain0 B3.out d)
  have KA_4 := Lib.hid (KA_3.out.below' d)
  have SW := Lib.hid sw
  clear sw d B3 KA_3
  go_wp2_with fail
  refine (e_p1 _ _ _ SW.out (HSH.out _ B4.out)).mono ?_
  rintro x w5 ⟨rfl, d⟩
  have B5 := Lib.hid (chain0 B4.out d)
  have KA_5 := Lib.hid (KA_4.out.below' d)
  clear SW d B4 KA_4
  have KB_6 := Lib.hid (Blk.new w5 26 #[.int .i64 2, .int .i64 0, .int .i64 0, .int .i64 1, .int .i64 0, .int .i64 0, .int .i64 0, .int .i64 0, .int .i64 0, .string ⟨#[]⟩, .int .u64 0])
  have B6 := Lib.hid (B5.out.alloc B5.out.size (.cells #[.int .i64 2, .int .i64 0, .int .i64 0, .int .i64 1, .int .i64 0, .int .i64 0, .int .i64 0, .int .i64 0, .int .i64 0, .string ⟨#[]⟩, .int .u64 0] 26))
  have KA_6 := Lib.hid (KA_5.out.alloc (.cells #[.int .i64 2, .int .i64 0, .int .i64 0, .int .i64 1, .int .i64 0, .int .i64 0, .int .i64 0, .int .i64 0, .int .i64 0, .string ⟨#[]⟩, .int .u64 0] 26))
  go_wp2_with fail
  generalize w5.alloc (.cells #[.int .i64 2, .int .i64 0, .int .i64 0, .int .i64 1, .int .i64 0, .int .i64 0, .int .i64 0, .int .i64 0, .int .i64 0, .string ⟨#[]⟩, .int .u64 0] 26) = w6 at *
  generalize w5.heap.size = gb at *
  clear B5 KA_5
  refine (sale_any _).mono ?_
  rintro x w7 ⟨b1, b2, rfl, sw, d⟩
  have B7 := Lib.hid (chain0 B6.out d)
  have KA_7 := Lib.hid (KA_6.out.below' d)
  have KB_7 := Lib.hid (KB_6.out.below' d)
  have SW := Lib.hid sw
  clear sw d B6 KA_6 KB_6
  go_wp2_with fail
  refine (e_p2 _ _ _ SW.out (HSH.out _ B7.out)).mono ?_
  rintro x w8 ⟨rfl, d⟩
  have B8 := Lib.hid (chain0 B7.out d)
  have KA_8 := Lib.hid (KA_7.out.below' d)
  have KB_8 := Lib.hid (KB_7.out.below' d)
  clear SW d B7 KA_7 KB_7
  have KC_9 := Lib.hid (Blk.new w8 26 #[.int .i64 0, .int .i64 0, .int .i64 0, .int .i64 0, .int .i64 0, .int .i64 0, .int .i64 0, .int .i64 0, .int .i64 0, .string ⟨#[]⟩, .int .u64 0])
  have B9 := Lib.hid (B8.out.alloc B8.out.size (.cells #[.int .i64 0, .int .i64 0, .int .i64 0, .int .i64 0, .int .i64 0, .int .i64 0, .int .i64 0, .int .i64 0, .int .i64 0, .string ⟨#[]⟩, .int .u64 0] 26))
  have KA_9 := Lib.hid (KA_8.out.alloc (.cells #[.int .i64 0, .int .i64 0, .int .i64 0, .int .i64 0, .int .i64 0, .int .i64 0, .int .i64 0, .int .i64 0, .int .i64 0, .string ⟨#[]⟩, .int .u64 0] 26))
  have KB_9 := Lib.hid (KB_8.out.alloc (.cells #[.int .i64 0, .int .i64 0, .int .i64 0, .int .i64 0, .int .i64 0, .int .i64 0, .int .i64 0, .int .i64 0, .int .i64 0, .string ⟨#[]⟩, .int .u64 0] 26))
  go_wp2_with fail
  generalize w8.alloc (.cells #[.int .i64 0, .int .i64 0, .int .i64 0, .int .i64 0, .int .i64 0, .int .i64 0, .int .i64 0, .int .i64 0, .int .i64 0, .string ⟨#[]⟩, .int .u64 0] 26) = w9 at *
  generalize w8.heap.size = gc at *
  clear B8 KA_8 KB_8
  refine (sale_any _).mono ?_
  rintro x w10 ⟨b1, b2, rfl, sw, d⟩
  have B10 := Lib.hid (chain0 B9.out d)
  have KA_10 := Lib.hid (KA_9.out.below' d)
  have KB_10 := Lib.hid (KB_9.out.below' d)
  have KC_10 := Lib.hid (KC_9.out.below' d)
  have SW := Lib.hid sw
  clear sw d B9 KA_9 KB_9 KC_9
  go_wp2_with fail
  refine (e_p3 _ _ _ SW.out (HSH.out _ B10.out)).mono ?_
  rintro x w11 ⟨rfl, d⟩
  have B11 := Lib.hid (chain0 B10.out d)
  have KA_11 := Lib.hid (KA_10.out.below' d)
  have KB_11 := Lib.hid (KB_10.out.below' d)
  have KC_11 := Lib.hid (KC_10.out.below' d)
  clear SW d B10 KA_10 KB_10 KC_10
  have KD_12 := Lib.hid (Blk.new w11 26 #[.int .i64 0, .int .i64 0, .int .i64 0, .int .i64 0, .int .i64 0, .int .i64 0, .int .i64 0, .int .i64 0, .int .i64 0, .string ⟨#[]⟩, .int .u64 0])
  have B12 := Lib.hid (B11.out.alloc B11.out.size (.cells #[.int .i64 0, .int .i64 0, .int .i64 0, .int .i64 0, .int .i64 0, .int .i64 0, .int .i64 0, .int .i64 0, .int .i64 0, .string ⟨#[]⟩, .int .u64 0] 26))
  have KA_12 := Lib.hid (KA_11.out.alloc (.cells #[.int .i64 0, .int .i64 0, .int .i64 0, .int .i64 0, .int .i64 0, .int .i64 0, .int .i64 0, .int .i64 0, .int .i64 0, .string ⟨#[]⟩, .int .u64 0] 26))
  have KB_12 := Lib.hid (KB_11.out.alloc (.cells #[.int .i64 0, .int .i64 0, .int .i64 0, .int .i64 0, .int .i64 0, .int .i64 0, .int .i64 0, .int .i64 0, .int .i64 0, .string ⟨#[]⟩, .int .u64 0] 26))
  have KC_12 := Lib.hid (KC_11.out.alloc (.cells #[.int .i64 0, .int .i64 0, .int .i64 0, .int .i64 0, .int .i64 0, .int .i64 0, .int .i64 0, .int .i64 0, .int .i64 0, .string ⟨#[]⟩, .int .u64 0] 26))
  go_wp2_with fail
  generalize w11.alloc (.cells #[.int .i64 0, .int .i64 0, .int .i64 0, .int .i64 0, .int .i64 0, .int .i64 0, .int .i64 0, .int .i64 0, .int .i64 0, .string ⟨#[]⟩, .int .u64 0] 26) = w12 at *
  generalize w11.heap.size = gd at *
  clear B11 KA_11 KB_11 KC_11
  refine (e_fmt _ (HSH.out _ B12.out)).mono ?_
  rintro x w13 ⟨rfl, d⟩
  have B13 := Lib.hid (chain0 B12.out d)
  have KA_13 := Lib.hid (KA_12.out.below' d)
  have KB_13 := Lib.hid (KB_12.out.below' d)
  have KC_13 := Lib.hid (KC_12.out.below' d)
  have KD_13 := Lib.hid (KD_12.out.below' d)
  clear d B12 KA_12 KB_12 KC_12 KD_12
  go_wp2_with fail
  refine (e_p4 _ (HSH.out _ B13.out)).mono ?_
  rintro x w14 ⟨rfl, d⟩
  have B14 := Lib.hid (chain0 B13.out d)
  have KA_14 := Lib.hid (KA_13.out.below' d)
  have KB_14 := Lib.hid (KB_13.out.below' d)
  have KC_14 := Lib.hid (KC_13.out.below' d)
  have KD_14 := Lib.hid (KD_13.out.below' d)
  clear d B13 KA_13 KB_13 KC_13 KD_13
  have KE_15 := Lib.hid (Blk.new w14 26 #[.int .i64 1, .int .i64 0, .int .i64 0, .int .i64 0, .int .i64 0, .int .i64 0, .int .i64 0, .int .i64 0, .int .i64 0, .string ⟨#[112, 114, 111, 100, 117, 99, 116, 32, 97, 32, 49, 32, 48, 32, 49, 32, 48, 10, 98, 105, 100, 100, 101, 114, 32, 120, 32, 48, 32, 48, 32, 49, 10]⟩, .int .u64 0])
  have B15 := Lib.hid (B14.out.alloc B14.out.size (.cells #[.int .i64 1, .int .i64 0, .int .i64 0, .int .i64 0, .int .i64 0, .int .i64 0, .int .i64 0, .int .i64 0, .int .i64 0, .string ⟨#[112, 114, 111, 100, 117, 99, 116, 32, 97, 32, 49, 32, 48, 32, 49, 32, 48, 10, 98, 105, 100, 100, 101, 114, 32, 120, 32, 48, 32, 48, 32, 49, 10]⟩, .int .u64 0] 26))
  have KA_15 := Lib.hid (KA_14.out.alloc (.cells #[.int .i64 1, .int .i64 0, .int .i64 0, .int .i64 0, .int .i64 0, .int .i64 0, .int .i64 0, .int .i64 0, .int .i64 0, .string ⟨#[112, 114, 111, 100, 117, 99, 116, 32, 97, 32, 49, 32, 48, 32, 49, 32, 48, 10, 98, 105, 100, 100, 101, 114, 32, 120, 32, 48, 32, 48, 32, 49, 10]⟩, .int .u64 0] 26))
  have KB_15 := Lib.hid (KB_14.out.alloc (.cells #[.int .i64 1, .int .i64 0, .int .i64 0, .int .i64 0, .int .i64 0, .int .i64 0, .int .i64 0, .int .i64 0, .int .i64 0, .string ⟨#[112, 114, 111, 100, 117, 99, 116, 32, 97, 32, 49, 32, 48, 32, 49, 32, 48, 10, 98, 105, 100, 100, 101, 114, 32, 120, 32, 48, 32, 48, 32, 49, 10]⟩, .int .u64 0] 26))
  have KC_15 := Lib.hid (KC_14.out.alloc (.cells #[.int .i64 1, .int .i64 0, .int .i64 0, .int .i64 0, .int .i64 0, .int .i64 0, .int .i64 0, .int .i64 0, .int .i64 0, .string ⟨#[112, 114, 111, 100, 117, 99, 116, 32, 97, 32, 49, 32, 48, 32, 49, 32, 48, 10, 98, 105, 100, 100, 101, 114, 32, 120, 32, 48, 32, 48, 32, 49, 10]⟩, .int .u64 0] 26))
  have KD_15 := Lib.hid (KD_14.out.alloc (.cells #[.int .i64 1, .int .i64 0, .int .i64 0, .int .i64 0, .int .i64 0, .int .i64 0, .int .i64 0, .int .i64 0, .int .i64 0, .string ⟨#[112, 114, 111, 100, 117, 99, 116, 32, 97, 32, 49, 32, 48, 32, 49, 32, 48, 10, 98, 105, 100, 100, 101, 114, 32, 120, 32, 48, 32, 48, 32, 49, 10]⟩, .int .u64 0] 26))
  go_upto_region 9 with fail
  generalize w14.alloc (.cells #[.int .i64 1, .int .i64 0, .int .i64 0, .int .i64 0, .int .i64 0, .int .i64 0, .int .i64 0, .int .i64 0, .int .i64 0, .string ⟨#[112, 114, 111, 100, 117, 99, 116, 32, 97, 32, 49, 32, 48, 32, 49, 32, 48, 10, 98, 105, 100, 100, 101, 114, 32, 120, 32, 48, 32, 48, 32, 49, 10]⟩, .int .u64 0] 26) = w15 at *
  generalize w14.heap.size = gx at *
  clear B14 KA_14 KB_14 KC_14 KD_14
  have ca := Blk11 KA_15.out
  have la := KA_15.out.lt
  have cb := Blk11 KB_15.out
  have lb := KB_15.out.lt
  have ce := Blk11 KE_15.out
  have le := KE_15.out.lt
  have qe : ∀ W, (Op.equalIn 10000 26 (.agg #[.int .i64 2, .int .i64 0, .int .i64 0, .int .i64 1, .int .i64 0, .int .i64 0, .int .i64 0, .int .i64 0, .int .i64 0, .string ⟨#[]⟩, .int .u64 0]) (.agg #[.int .i64 2, .int .i64 0, .int .i64 0, .int .i64 1, .int .i64 0, .int .i64 0, .int .i64 0, .int .i64 0, .int .i64 0, .string ⟨#[]⟩, .int .u64 0])).run Tryz.prog W = .ok true W := fun W => by
    have h := eq_evt ⟨2, 0, 0, pA, ⟨#[]⟩, 0⟩ ⟨2, 0, 0, pA, ⟨#[]⟩, 0⟩ W
    rw [evEq_refl] at h
    exact h
  go_wp2_with fail
  refine (e_n2 _).mono ?_
  rintro x w16 ⟨rfl, d⟩
  have B16 := Lib.hid (chain0 B15.out d)
  have KA_16 := Lib.hid (KA_15.out.below' d)
  have KB_16 := Lib.hid (KB_15.out.below' d)
  have KC_16 := Lib.hid (KC_15.out.below' d)
  have KD_16 := Lib.hid (KD_15.out.below' d)
  have KE_16 := Lib.hid (KE_15.out.below' d)
  clear d B15 KA_15 KB_15 KC_15 KD_15 KE_15
  go_wp2_with fail
  refine (e_n11 _).mono ?_
  rintro x w17 ⟨rfl, d⟩
  have B17 := Lib.hid (chain0 B16.out d)
  have KA_17 := Lib.hid (KA_16.out.below' d)
  have KB_17 := Lib.hid (KB_16.out.below' d)
  have KC_17 := Lib.hid (KC_16.out.below' d)
  have KD_17 := Lib.hid (KD_16.out.below' d)
  have KE_17 := Lib.hid (KE_16.out.below' d)
  clear d B16 KA_16 KB_16 KC_16 KD_16 KE_16
  go_wp2_with fail
  refine (e_chk _).mono ?_
  rintro x w18 ⟨rfl, d⟩
  have B18 := Lib.hid (chain0 B17.out d)
  have KA_18 := Lib.hid (KA_17.out.below' d)
  have KB_18 := Lib.hid (KB_17.out.below' d)
  have KC_18 := Lib.hid (KC_17.out.below' d)
  have KD_18 := Lib.hid (KD_17.out.below' d)
  have KE_18 := Lib.hid (KE_17.out.below' d)
  clear d B17 KA_17 KB_17 KC_17 KD_17 KE_17
  go_wp2_with fail
  go_ret
  exact ⟨rfl, B18.out⟩
end Go.Proofs.YtaikmgnpfbnjjaaGreatDoor.Ev
