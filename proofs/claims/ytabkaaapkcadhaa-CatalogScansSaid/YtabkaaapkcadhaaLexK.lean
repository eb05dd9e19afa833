/- The examples of the chapter hold. -/
import Derived.Test.YtabkaaapkcadhaaLexR
import Derived.Test.YtabkaaapkcadhaaLexJ
namespace Go.Proofs.Ytabkaaapkcadhaa
open Go.ChangeShapes Go.WideShapes Go.ChangeAt Go.RowKit
namespace Lex
theorem own_only {w w' : World} {base g : Nat} {e ts : TypeId} {size n : Nat} {v : Value} {xs : List Value} {cs : Array Value} (h : w.ownsRow base e size v n xs) (o : Only g w w') (hg : Blk w g ts cs) (hne : e ≠ ts) : w'.ownsRow base e size v n xs :=
  h.kept (row := some g) ⟨o.os, o.tape, o.output, o.size, fun k hk hn => o.block k hk (fun e2 => hn (by rw [e2]))⟩ (.inr (own_apart h hg hne))
theorem Scan.blk {ts te : TypeId} {w : World} {g : Nat} {L : List Tok} {e : Int} (h : Scan ts te w g L e) : ∃ cs, Blk w g ts cs := by
  obtain ⟨A, c, hb, _⟩ := h
  exact ⟨_, hb⟩
def s1 : ByteArray := ⟨#[97, 49, 32, 123, 50]⟩
def s2 : ByteArray := ⟨#[120, 32, 48, 48, 55]⟩
def l1 : List Tok := [⟨1, ⟨#[97, 49]⟩, 0, 0⟩, ⟨3, ⟨#[123]⟩, 0, 3⟩, ⟨2, ⟨#[50]⟩, 2, 4⟩]
theorem lex1 : lex s1 = .ok l1 := by rfl
theorem lex2 : lex s2 = .error 2 := by rfl
theorem row_sl {w : World} {b : Nat} {t : TypeId} {L : List Tok} {n : Nat} (h : Blk w b t (cellsOf L).toArray) (hn : L.length = n) (hm : n ≤ maxLen) : Sl w 4 (.slice (some ⟨b, 0, none⟩) n n) L.length (cellsOf L) := by
  subst hn
  refine ⟨cellsOf_len L, _, _, rfl, Nat.le_refl _, hm, fun _ => ⟨b, 0, rfl, h.lt, fun j u hu => ?_⟩⟩
  rw [Nat.zero_add, h.cell j]
  simpa using hu
set_option maxHeartbeats 2000000 in
set_option maxRecDepth 100000 in
theorem awake_any (w : World) : Calls Try.prog 15 #[] w fun e w' => e = .returned (.bool true) ∧ Below w.heap.size w w' := by
  have T1 : Hid (∀ w, Calls Try.prog 16 #[.string s1] w (TokPost 33 (.ok l1) w)) := fun w => by rw [← lex1]; exact tokens_short s1 w (by decide)
  have T2 : Hid (∀ w, Calls Try.prog 16 #[.string s2] w (TokPost 33 (.error 2) w)) := fun w => by rw [← lex2]; exact tokens_short s2 w (by decide)
  unfold s1 at T1
  unfold s2 at T2
  go_enter Try.func15, Try.ntmps15
  go_wp2_with fail
  refine (T1.out _).mono ?_
  rintro e w1 ⟨v1, rfl, o1, b1⟩
  obtain ⟨A1, c1, rfl, _, _, _⟩ := own_scan o1
  have O1 := Lib.hid o1
  have B1 := Lib.hid b1
  clear o1 b1
  go_wp2_with fail
  refine (T2.out _).mono ?_
  rintro e w2 ⟨v2, rfl, o2, b2⟩
  obtain ⟨A2, c2, rfl, _, _, _⟩ := own_scan o2
  have O2 := Lib.hid (own_below O1.out b2)
  have B2 := Lib.hid (chain0 B1.out b2)
  clear o2 b2 O1 B1
  have hl : (LexToks (Except.ok l1)).length = 3 := rfl
  have hl2 : (LexToks (Except.error 2)).length = 0 := rfl
  have he : LexErr (Except.ok l1) = 0 := rfl
  have he2 : LexErr (Except.error 2) = 2 := rfl
  simp only [hl, hl2, he, he2]
  clear hl hl2 he he2
  have P3 := Lib.hid (Blk.new w2 33 #[.int .i64 1, .string ⟨#[97, 49]⟩, .int .i64 0, .int .i64 0, .int .i64 3, .string ⟨#[123]⟩, .int .i64 0, .int .i64 3, .int .i64 2, .string ⟨#[50]⟩, .int .i64 2, .int .i64 4])
  go_wp2_with fail
  refine (newScanner_any l1 _ _ (by decide) (Sl.of_own (O2.out.alloc _))).mono ?_
  rintro e w3 ⟨g, rfl, hg, s3, b3⟩
  have S3 := Lib.hid s3
  have O3 := Lib.hid (own_below (O2.out.alloc _) b3)
  have K3 := Lib.hid (P3.out.below' b3)
  have hgw : w.heap.size ≤ g := by have := B2.out.size; simp at hg; omega
  have hgk : w2.heap.size ≠ g := by simp at hg; omega
  have B3 := Lib.hid (chain1 B2.out b3)
  clear s3 b3 O2 P3 B2 hg
  go_wp2_with fail
  refine (name_any l1 0 g _ S3.out (by decide)).mono ?_
  rintro e w4 ⟨rfl, s4, q4⟩
  obtain ⟨cs4, hk4⟩ := S3.out.blk
  have S4 : Hid (Scan 95 33 w4 g l1.tail 0) := s4
  have O4 := Lib.hid (own_only O3.out q4 hk4 (by decide))
  have K4 := Lib.hid (K3.out.only q4 hgk)
  have B4 := Lib.hid (Only.after_below B3.out q4 hgw)
  clear s4 q4 hk4 O3 K3 B3 S3
  have hn : nameT l1 0 = ⟨#[97, 49]⟩ := rfl
  rw [hn]
  clear hn
  go_wp2_with fail
  have hex : accB l1.tail 0 ⟨#[123]⟩ := ⟨rfl, rfl⟩
  have X5 : Hid (expL l1.tail 0 ⟨#[123]⟩ = l1.tail.tail) := if_pos hex
  have Y5 : Hid (expE l1.tail 0 ⟨#[123]⟩ = 0) := if_pos hex
  clear hex
  refine (expect_any l1.tail 0 g _ _ S4.out (by decide)).mono ?_
  rintro e w5 ⟨rfl, s5, q5⟩
  rw [X5.out, Y5.out] at s5
  obtain ⟨cs5, hk5⟩ := S4.out.blk
  have S5 := Lib.hid s5
  have O5 := Lib.hid (own_only O4.out q5 hk5 (by decide))
  have K5 := Lib.hid (K4.out.only q5 hgk)
  have B5 := Lib.hid (Only.after_below B4.out q5 hgw)
  clear s5 q5 hk5 O4 K4 B4 S4 X5 Y5
  go_wp2_with fail
  refine (amount_any l1.tail.tail 0 1 g _ S5.out (by decide)).mono ?_
  rintro e w6 ⟨rfl, s6, q6⟩
  obtain ⟨cs6, hk6⟩ := S5.out.blk
  have S6 : Hid (Scan 95 33 w6 g l1.tail.tail 4) := s6
  have O6 := Lib.hid (own_only O5.out q6 hk6 (by decide))
  have K6 := Lib.hid (K5.out.only q6 hgk)
  have B6 := Lib.hid (Only.after_below B5.out q6 hgw)
  clear s6 q6 hk6 O5 K5 B5 S5
  have hn : amtV l1.tail.tail 0 1 = 0 := rfl
  rw [hn]
  clear hn
  go_wp2_with fail
  refine (equal_same l1 _ _ _ (by decide) (Sl.of_own O6.out) (row_sl (L := l1) (n := 3) (t := 33) K6.out rfl (by unfold maxLen; omega))).mono ?_
  rintro e w7 ⟨rfl, b7⟩
  have S7 := Lib.hid (S6.out.below b7)
  have O7 := Lib.hid (own_below O6.out b7)
  have B7 := Lib.hid (chain0 B6.out b7)
  clear b7 O6 B6 S6
  go_wp2_with fail
  clear K6
  refine (isName_any ⟨#[97, 95, 49]⟩ _ (by decide)).mono ?_
  rintro e w' ⟨rfl, rfl⟩
  have hn : nameOk ⟨#[97, 95, 49]⟩ = true := rfl
  rw [hn]
  clear hn
  go_wp2_with fail
  refine (isName_any ⟨#[49, 97]⟩ _ (by decide)).mono ?_
  rintro e w' ⟨rfl, rfl⟩
  have hn : nameOk ⟨#[49, 97]⟩ = false := rfl
  rw [hn]
  clear hn
  go_wp2_with fail
  refine (isName_any ⟨#[]⟩ _ (by decide)).mono ?_
  rintro e w' ⟨rfl, rfl⟩
  have hn : nameOk ⟨#[]⟩ = false := rfl
  rw [hn]
  clear hn
  go_wp2_with fail
  have J8 : Hid (∀ w, Sl w 4 (.slice A1 3 c1) 3 (cellsOf l1) → Calls Try.prog 21 #[.slice A1 3 c1] w fun e w' => e = .returned (.string ⟨#[97, 49, 123, 50]⟩) ∧ Below w.heap.size w w') := fun w h => join_any l1 _ w (by decide) h (by decide)
  refine (J8.out _ (Sl.of_own O7.out)).mono ?_
  rintro e w8 ⟨rfl, b8⟩
  have S8 := Lib.hid (S7.out.below b8)
  have O8 := Lib.hid (own_below O7.out b8)
  have B8 := Lib.hid (chain0 B7.out b8)
  clear b8 O7 B7 S7
  go_wp2_with fail
  refine (err_any _ _ g _ S8.out).mono ?_
  rintro e w' ⟨rfl, rfl⟩
  go_wp2_with fail
  refine (end_any _ _ g _ S8.out (by decide)).mono ?_
  rintro e w' ⟨rfl, rfl⟩
  have hn : endE l1.tail.tail 4 = 4 := rfl
  rw [hn]
  clear hn
  go_wp2_with fail
  refine (err_nil _).mono ?_
  rintro e w' ⟨rfl, rfl⟩
  go_wp2_with fail
  refine (next_nil_ _).mono ?_
  rintro e w9 ⟨rfl, b9⟩
  have B9 := Lib.hid (chain0 B8.out b9)
  clear b9 B8
  go_wp2_with fail
  go_ret
  exact ⟨rfl, B9.out⟩
end Lex
end Go.Proofs.Ytabkaaapkcadhaa
