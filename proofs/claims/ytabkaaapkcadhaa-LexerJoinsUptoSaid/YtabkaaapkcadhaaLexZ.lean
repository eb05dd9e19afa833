/- The law on scanners: walk. Printed by gen_lexZ.py. -/
import Derived.Test.YtabkaaapkcadhaaLexY
namespace Go.Proofs.Ytabkaaapkcadhaa
open Go.ChangeShapes Go.WideShapes Go.ChangeAt Go.RowKit
namespace Lex
/-- the reference's scanner while its list is made -/
def Made (w : World) (g k : Nat) (l : List Tok) : Prop := ∃ A c, Blk w g 41 #[.slice A k c, .int .i64 0] ∧ w.ownsRow (g + 1) 34 4 (.slice A k c) k (cellsOf (l.take k))
theorem own_form {w : World} {base : Nat} {e : TypeId} {size n : Nat} {v : Value} {xs : List Value} (h : w.ownsRow base e size v n xs) : ∃ A c, v = .slice A n c := by
  rcases h.2 with ⟨rfl, rfl⟩ | ⟨g, cap, cur, rfl, _⟩
  · exact ⟨none, 0, rfl⟩
  · exact ⟨_, cap, rfl⟩
theorem toks_one (l : List Tok) : ∀ u ∈ cellsOf l, u.oneCell' = true := by
  intro u hu
  obtain ⟨x, _, hx⟩ := List.mem_flatMap.1 hu
  exact one_cells4 rfl rfl rfl rfl u hx
theorem Made.scan {w : World} {g : Nat} {l : List Tok} (h : Made w g l.length l) : Scan 41 34 w g l 0 := by
  obtain ⟨A, c, h1, h2⟩ := h
  rw [List.take_length] at h2
  obtain ⟨A2, c2, e, k1, k2, k3⟩ := own_scan h2
  injection e with e1 e2 e3
  subst e1 e3
  exact ⟨_, _, h1, k1, k2, k3⟩

set_option maxHeartbeats 40000000 in
set_option maxRecDepth 100000 in
theorem law_scans_main (l : List Tok) (A1 : Option Addr) (c1 : Nat) (S : List Stp) (A2 : Option Addr) (c2 : Nat) (w : World) (hl : l.length ≤ 200) (hS : S.length ≤ 200)
    (h1 : Sl w 4 (.slice A1 l.length c1) l.length (cellsOf l)) (h2 : 0 < S.length → ∃ b o, A2 = some ⟨b, o, none⟩ ∧ b < w.heap.size ∧ StepRow w b o S) :
    Calls Try.prog 7 #[.slice A1 l.length c1, .slice A2 S.length c2] w fun e w' => e = .returned (.bool true) ∧ Below w.heap.size w w' := by
  have AW := Lib.hid awake_any
  obtain ⟨i0, hi0, hz0, hz1, hz2⟩ := info_parts tok_info
  obtain ⟨j0, hj0, hy0, hy1, hy2⟩ := info_parts rtok_info
  have H1 := Lib.hid h1
  have H2 := Lib.hid h2
  have d1 : decide ((200 : Int) < (l.length : Int)) = false := by simp; omega
  have d2 : decide ((200 : Int) < (S.length : Int)) = false := by simp; omega
  have HR : Hid (0 < l.length → ∃ b o, A1 = some ⟨b, o, none⟩ ∧ b < w.heap.size ∧ TokRow w b o l) := by
    obtain ⟨A, c, e, _, _, hr⟩ := sl_cases h1
    injection e with e1 _ _
    subst e1
    exact hr
  clear h1 h2
  go_enter Try.func7, Try.ntmps7
  go_wp2_with fail
  go_loopw [26] (fun i wr => ∃ k : Nat, k ≤ l.length ∧ i = .int .i64 (k : Int) ∧ Hid (Made wr w.heap.size k l) ∧ Hid (Below w.heap.size w wr)) (fun i _ => l.length - (intOf i).toNat)
  case atStart => exact ⟨0, by omega, rfl, ⟨none, 0, Blk.new _ _ _, by simpa [cellsOf] using World.ownsRow_nil _ _ _ _⟩, below_new _ _⟩
  case round =>
    obtain ⟨k, hk, rfl, HM, HB⟩ := hrel
    by_cases hlt : k < l.length
    · have hdk : decide ((k : Int) < (l.length : Int)) = true := by simp; omega
      have hi1 : (0 : Int) ≤ (k : Int) := by omega
      obtain ⟨b, o, rfl, hb, hrr⟩ := HR.out (by omega)
      have et := hrr.at_ k hlt
      simp only [← HB.out.cell (p := ⟨b, _, none⟩) hb] at et
      have hbr : b < wr.heap.size := by have := HB.out.size; omega
      have htk : cellsOf (l.take (k + 1)) = cellsOf (l.take k) ++ l[k].cells := by
        rw [List.take_succ_eq_append_getElem hlt, cellsOf_snoc]
      obtain ⟨A, c, hk1, hown⟩ := HM.out
      generalize l[k] = t at *
      have HT := Lib.hid htk
      have hgl := hk1.lt
      have hc := hk1.c2
      have HO := Lib.hid hown
      have HK := Lib.hid hk1
      clear htk hown hk1 HM hrr
      go_wp2_with fail
      have ka := HK.out.alloc (.cells #[.int .i64 t.kind, .string t.text, .int .i64 t.value, .int .i64 t.pos] 33)
      have la := (Blk.new wr 33 #[.int .i64 t.kind, .string t.text, .int .i64 t.value, .int .i64 t.pos])
      have OA := Lib.hid (HO.out.alloc (.cells #[.int .i64 t.kind, .string t.text, .int .i64 t.value, .int .i64 t.pos] 33))
      have BA := Lib.hid (HB.out.alloc HB.out.size (.cells #[.int .i64 t.kind, .string t.text, .int .i64 t.value, .int .i64 t.pos] 33))
      generalize wr.alloc (.cells #[.int .i64 t.kind, .string t.text, .int .i64 t.value, .int .i64 t.pos] 33) = wa at *
      have ca := ka.c2
      have da := la.c4
      have lg := ka.lt
      have lt := la.lt
      have KA := Lib.hid ka
      clear ka la hc et hgl hbr HO HK HB
      go_region_law (refine step_append_own _ rfl (.tmp 34) (.tmp 36) _ rfl (w.heap.size + 1) 34 j0 _ 4 40 Try.underlying27 hj0 hy0 hy1 hy2 rfl (by decide) (.slice A k c) k (cellsOf (l.take k)) rfl (by first | exact own_below (OA.out.alloc _) ((Below.refl _ _).drew) | exact (own_below OA.out ((Below.refl _ _).drew)).alloc _) ⟨wa.heap.size, 0, none⟩ 1 1 [.int .i64 t.kind, .string t.text, .int .i64 t.value, .int .i64 t.pos] rfl rfl (four_new wa _ _ _ _ 34) (one_cells4 rfl rfl rfl rfl) (by unfold maxLen; omega) (by omega) (by have := BA.out.size; simp; omega) ?_; intro v' w2 hown hgr _; obtain ⟨A5, c5, rfl⟩ := own_form hown; have k5 : Blk w2 w.heap.size 41 #[.slice A k c, .int .i64 0] := (by first | exact (KA.out.alloc _).drew.grown hgr (fun e => own_apart OA.out KA.out (by decide) e.symm) | exact (KA.out.drew.alloc _).grown hgr (fun e => own_apart OA.out KA.out (by decide) e.symm)); obtain ⟨⟨d50, d51⟩, d52, d53⟩ := k5.c2; have O5 := Lib.hid hown; have K5 := Lib.hid k5; have B5 : Hid (Below w.heap.size w w2) := (by first | exact (BA.out.alloc BA.out.size _).drew.grown hgr (by have := BA.out.size; simp; omega) (fun q hq => by have := (OA.out.lt q hq).1; omega) | exact (BA.out.drew.alloc BA.out.size _).grown hgr (by have := BA.out.size; simp; omega) (fun q hq => by have := (OA.out.lt q hq).1; omega)); clear hown hgr k5)
      all_goals go_wp2_with fail
      all_goals exact ⟨⟨k + 1, by omega, by go_num, ⟨A5, c5, K5.out.put 0 _, ownsRow_setCell_below (by rw [HT.out]; exact O5.out) (Nat.lt_succ_self _) _⟩, B5.out.setCell (Nat.le_refl _) _⟩, by simp [intOf]; omega⟩
    · obtain rfl : k = l.length := by omega
      have hdk : decide ((l.length : Int) < (l.length : Int)) = false := by simp
      have SR0 := Lib.hid HM.out.scan
      clear HM
      have HS1 := Lib.hid (H1.out.keep HB.out)
      go_wp2_with (at_builtin; refine wpList_append_sl _ rfl (.tmp 41) (.tmp 42) _ rfl w.heap.size 33 i0 _ 4 40 Try.underlying23 hi0 hz0 hz1 hz2 rfl (by decide) (.slice (some ⟨wr.heap.size, 0, none⟩) 0 0) 0 [] rfl (World.ownsRow_made wr #[] 0 HB.out.size (by unfold maxLen; omega) rfl) (.slice A1 l.length c1) l.length (cellsOf l) rfl (HS1.out.keep (below_new _ _)) (toks_one l) (by unfold maxLen; omega) (by omega) (by have := HB.out.size; simp; omega) ?_)
      intro v' w1 hown hgr
      obtain ⟨A5, c5, rfl⟩ := own_form hown
      have bgr : Below w.heap.size w w1 := (HB.out.alloc HB.out.size _).grown hgr (by have := HB.out.size; simp; omega) (fun q hq => by have := HB.out.size; simp [Value.ownBlock] at hq; omega)
      have SR1 : Hid (Scan 41 34 w1 w.heap.size l 0) := by
        have hlt1 := SR0.out.lt
        have h2 := SR0.out.below (below_new wr (.cells #[] 33))
        obtain ⟨A6, c6, k1, k2, k3, k4⟩ := h2
        refine ⟨A6, c6, k1.grown hgr (fun e => ?_), k2, k3, fun hn => ?_⟩
        · simp [Value.ownBlock] at e
          omega
        · obtain ⟨b6, o6, cs6, e1, e2, e3⟩ := k4 hn
          have e4 := e2.grown hgr (fun e => own_apart (World.ownsRow_made (base := 0) (size := 4) (e := 33) wr #[] 0 (Nat.zero_le _) (by unfold maxLen; omega) rfl) e2 (by decide) e.symm)
          exact ⟨b6, o6, cs6, e1, e4, e3.keep e2 e4⟩
      have W1 := Lib.hid hown
      have B1 := Lib.hid bgr
      have HA := Lib.hid (H1.out.keep bgr)
      clear hown hgr bgr SR0 HS1 HB
      go_wp2_with fail
      refine (newScanner_any l _ _ (by omega) HA.out).mono ?_
      rintro r w2 ⟨g1, rfl, hg, s2, b2⟩
      have P2 := Lib.hid s2
      have R2 := Lib.hid (SR1.out.below b2)
      have W2 := Lib.hid (own_below W1.out b2)
      have B2 := Lib.hid (chain0 B1.out b2)
      have hg1 : w.heap.size ≤ g1 := by have := B1.out.size; omega
      clear s2 b2 SR1 W1 B1 hg
      go_wp2_with fail
      go_loopw [48] (fun i wr => ∃ (i' : Nat) (L : List Tok) (e : Int), i' ≤ S.length ∧ L.length ≤ 200 ∧ i = .int .i64 (i' : Int) ∧ Hid (Scan 95 33 wr g1 L e) ∧ Hid (Scan 41 34 wr w.heap.size L e) ∧ Hid (wr.ownsRow w.heap.size 33 4 (.slice A5 l.length c5) l.length (cellsOf l)) ∧ Hid (Below w.heap.size w wr)) (fun i _ => S.length - (intOf i).toNat)
      case atStart => exact ⟨0, l, 0, by omega, by omega, rfl, P2, R2, W2, B2⟩
      case round =>
        clear P2 R2 W2 B2 HA
        obtain ⟨i, L, e, hi, hL, rfl, P, R, W, B⟩ := hrel
        by_cases hlt2 : i < S.length
        · have hdk2 : decide ((i : Int) < (S.length : Int)) = true := by simp; omega
          have hi2 : (0 : Int) ≤ (i : Int) := by omega
          obtain ⟨b2, o2, rfl, hb2, hr2⟩ := H2.out (by omega)
          have et := hr2.at_ i hlt2
          simp only [← B.out.cell (p := ⟨b2, _, none⟩) hb2] at et
          generalize S[i] = s at *
          obtain ⟨ck, cm, cn⟩ := s
          dsimp only at et
          have hbr : b2 < wr.heap.size := by have := B.out.size; omega
          have P0 := Lib.hid (P.out.below (below_new wr (.cells #[.int .i64 ck, .string cm, .int .i64 cn] 45)))
          have R0 := Lib.hid (R.out.below (below_new wr (.cells #[.int .i64 ck, .string cm, .int .i64 cn] 45)))
          have W0 := Lib.hid (W.out.alloc (.cells #[.int .i64 ck, .string cm, .int .i64 cn] 45))
          have B0 := Lib.hid (B.out.alloc B.out.size (.cells #[.int .i64 ck, .string cm, .int .i64 cn] 45))
          have K0 := Lib.hid (Blk.new wr 45 #[.int .i64 ck, .string cm, .int .i64 cn])
          clear hr2 P R W B
          by_cases h0 : ck = 0
          · subst h0
            have CP := Lib.hid fun x (h : Scan 95 33 x g1 L e) => peek_any L e g1 x h (by unfold maxLen; omega)
            have CR := Lib.hid fun x (h : Scan 41 34 x w.heap.size L e) => rpeek_any L e w.heap.size x h (by unfold maxLen; omega)
            generalize hp : peekT L e = t at *
            clear hp
            have hl2 : L.length ≤ 200 := by have := nextL_len L e; omega
            go_wp2_with fail
            refine (CP.out _ P0.out).mono ?_
            rintro r w1 ⟨rfl, b1⟩
            have P1 := Lib.hid (P0.out.below b1)
            have R1 := Lib.hid (R0.out.below b1)
            have W1 := Lib.hid (own_below W0.out b1)
            have K1 := Lib.hid (K0.out.below' b1)
            have c1 := K1.out.c3
            have B1 := Lib.hid (chain0 B0.out b1)
            clear b1
            go_wp2_with fail
            refine (CR.out _ R1.out).mono ?_
            rintro r w2 ⟨rfl, b2⟩
            have P2 := Lib.hid (P1.out.below b2)
            have R2 := Lib.hid (R1.out.below b2)
            have W2 := Lib.hid (own_below W1.out b2)
            have K2 := Lib.hid (K1.out.below' b2)
            have c2 := K2.out.c3
            have B2 := Lib.hid (chain0 B1.out b2)
            clear b2
            generalize hL : L = L2 at *
            generalize hE : e = e2 at *
            clear hL hE
            obtain ⟨A8, c8, hb8, hx1, hx2, hx3⟩ := R2.out
            have d8 := hb8.c2
            clear hb8 hx1 hx2 hx3
            go_wp2_with fail
            go_quiet (first | (go_at_call 38; refine (err_any L2 e2 g1 _ (P2.out.drewN _)).mono ?_; rintro r w' ⟨rfl, rfl⟩; exact ⟨rfl, _, rfl⟩) | (go_at_call 39; refine (end_any L2 e2 g1 _ (P2.out.drewN _) (by unfold maxLen; omega)).mono ?_; rintro r w' ⟨rfl, rfl⟩; exact ⟨rfl, _, rfl⟩) | (go_at_call 40; refine (rend_any L2 e2 w.heap.size _ (R2.out.drewN _) (by unfold maxLen; omega)).mono ?_; rintro r w' ⟨rfl, rfl⟩; exact ⟨rfl, _, rfl⟩))
            have P9 := Lib.hid (P2.out.drewN nq)
            have R9 := Lib.hid (R2.out.drewN nq)
            have W9 := Lib.hid (own_below W2.out (drewN_below _ nq))
            have B9 := Lib.hid (chain0 B2.out (drewN_below _ nq))
            generalize World.drewN _ nq = w9 at *
            go_wp2_with fail
            go_roundw
            case rel => exact ⟨i + 1, L2, e2, by omega, by omega, by go_num, P9, R9, W9, B9⟩
            case measure => simp [intOf]; omega
          have n0 : (ck == 0) = false := by simpa using h0
          by_cases h1 : ck = 1
          · subst h1
            have CP := Lib.hid fun x (h : Scan 95 33 x g1 L e) => next_any L e g1 x h (by unfold maxLen; omega)
            have CR := Lib.hid fun x (h : Scan 41 34 x w.heap.size L e) => rnext_any L e w.heap.size x h (by unfold maxLen; omega)
            generalize hp : peekT L e = t at *
            clear hp
            have hl2 : (nextL L e).length ≤ 200 := by have := nextL_len L e; omega
            go_wp2_with fail
            refine (CP.out _ P0.out).mono ?_
            rintro r w1 ⟨rfl, s1, q1⟩
            obtain ⟨cs1, k1⟩ := P0.out.blk
            have P1 : Hid (Scan 95 33 w1 g1 (nextL L e) e) := s1
            have R1 := Lib.hid (R0.out.other q1 k1 (by decide) (by decide))
            have W1 := Lib.hid (own_only W0.out q1 k1 (by decide))
            have K1 := Lib.hid (K0.out.only q1 (K0.out.apart k1 (by decide)))
            have c1 := K1.out.c3
            have B1 := Lib.hid (Only.after_below B0.out q1 hg1)
            clear s1 q1 k1
            go_wp2_with fail
            refine (CR.out _ R1.out).mono ?_
            rintro r w2 ⟨rfl, s2, q2⟩
            obtain ⟨cs2, k2⟩ := R1.out.blk
            have R2 : Hid (Scan 41 34 w2 w.heap.size (nextL L e) e) := s2
            have P2 := Lib.hid (P1.out.other q2 k2 (by decide) (by decide))
            have W2 := Lib.hid (own_only W1.out q2 k2 (by decide))
            have K2 := Lib.hid (K1.out.only q2 (K1.out.apart k2 (by decide)))
            have c2 := K2.out.c3
            have B2 := Lib.hid (Only.after_below B1.out q2 (Nat.le_refl _))
            clear s2 q2 k2
            generalize hL : nextL L e = L2 at *
            generalize hE : e = e2 at *
            clear hL hE
            obtain ⟨A8, c8, hb8, hx1, hx2, hx3⟩ := R2.out
            have d8 := hb8.c2
            clear hb8 hx1 hx2 hx3
            go_wp2_with fail
            go_quiet (first | (go_at_call 38; refine (err_any L2 e2 g1 _ (P2.out.drewN _)).mono ?_; rintro r w' ⟨rfl, rfl⟩; exact ⟨rfl, _, rfl⟩) | (go_at_call 39; refine (end_any L2 e2 g1 _ (P2.out.drewN _) (by unfold maxLen; omega)).mono ?_; rintro r w' ⟨rfl, rfl⟩; exact ⟨rfl, _, rfl⟩) | (go_at_call 40; refine (rend_any L2 e2 w.heap.size _ (R2.out.drewN _) (by unfold maxLen; omega)).mono ?_; rintro r w' ⟨rfl, rfl⟩; exact ⟨rfl, _, rfl⟩))
            have P9 := Lib.hid (P2.out.drewN nq)
            have R9 := Lib.hid (R2.out.drewN nq)
            have W9 := Lib.hid (own_below W2.out (drewN_below _ nq))
            have B9 := Lib.hid (chain0 B2.out (drewN_below _ nq))
            generalize World.drewN _ nq = w9 at *
            go_wp2_with fail
            go_roundw
            case rel => exact ⟨i + 1, L2, e2, by omega, by omega, by go_num, P9, R9, W9, B9⟩
            case measure => simp [intOf]; omega
          have n1 : (ck == 1) = false := by simpa using h1
          by_cases h2 : ck = 2
          · subst h2
            by_cases ha : accB L e cm
            · have hl2 : (nextL L e).length ≤ 200 := by have := nextL_len L e; omega
              go_wp2_with fail
              go_region_held3 (fun w' => w'.cell? ⟨wr.heap.size, 1, none⟩ = some (.string cm)) (go_keep) (first | (go_at_call 28; refine (accept_yes L e g1 cm _ P0.out.drew (by unfold maxLen; omega) ha).mono ?_; rintro r w1 ⟨rfl, s1, q1⟩; obtain ⟨cs1, k1⟩ := P0.out.drew.blk; have P1 : Hid (Scan 95 33 w1 g1 (nextL L e) e) := s1; have R1 := Lib.hid (R0.out.drew.other q1 k1 (by decide) (by decide)); have W1 := Lib.hid (own_only (own_below W0.out (Below.refl _ _).drew) q1 k1 (by decide)); have K1 := Lib.hid (K0.out.drew.only q1 (K0.out.drew.apart k1 (by decide))); have c1 := K1.out.c3; have B1 := Lib.hid (Only.after_below (chain0 B0.out (Below.refl _ _).drew) q1 hg1); clear s1 q1 k1) | (go_at_call 29; refine (raccept_yes L e w.heap.size cm _ R1.out (by unfold maxLen; omega) ha).mono ?_; rintro r w2 ⟨rfl, s2, q2⟩; obtain ⟨cs2, k2⟩ := R1.out.blk; have R2 : Hid (Scan 41 34 w2 w.heap.size (nextL L e) e) := s2; have P2 := Lib.hid (P1.out.other q2 k2 (by decide) (by decide)); have W2 := Lib.hid (own_only W1.out q2 k2 (by decide)); have K2 := Lib.hid (K1.out.only q2 (K1.out.apart k2 (by decide))); have c2 := K2.out.c3; have B2 := Lib.hid (Only.after_below B1.out q2 (Nat.le_refl _)); clear s2 q2 k2))
              generalize hL : nextL L e = L2 at *
              generalize hE : e = e2 at *
              clear hL hE
              obtain ⟨A8, c8, hb8, hx1, hx2, hx3⟩ := R2.out
              have d8 := hb8.c2
              clear hb8 hx1 hx2 hx3
              go_wp2_with fail
              go_quiet (first | (go_at_call 38; refine (err_any L2 e2 g1 _ (P2.out.drewN _)).mono ?_; rintro r w' ⟨rfl, rfl⟩; exact ⟨rfl, _, rfl⟩) | (go_at_call 39; refine (end_any L2 e2 g1 _ (P2.out.drewN _) (by unfold maxLen; omega)).mono ?_; rintro r w' ⟨rfl, rfl⟩; exact ⟨rfl, _, rfl⟩) | (go_at_call 40; refine (rend_any L2 e2 w.heap.size _ (R2.out.drewN _) (by unfold maxLen; omega)).mono ?_; rintro r w' ⟨rfl, rfl⟩; exact ⟨rfl, _, rfl⟩))
              have P9 := Lib.hid (P2.out.drewN nq)
              have R9 := Lib.hid (R2.out.drewN nq)
              have W9 := Lib.hid (own_below W2.out (drewN_below _ nq))
              have B9 := Lib.hid (chain0 B2.out (drewN_below _ nq))
              generalize World.drewN _ nq = w9 at *
              go_wp2_with fail
              go_roundw
              case rel => exact ⟨i + 1, L2, e2, by omega, by omega, by go_num, P9, R9, W9, B9⟩
              case measure => simp [intOf]; omega
            · have hl2 : L.length ≤ 200 := by have := nextL_len L e; omega
              go_wp2_with fail
              go_region_held3 (fun w' => w'.cell? ⟨wr.heap.size, 1, none⟩ = some (.string cm)) (go_keep) (first | (go_at_call 28; refine (accept_no L e g1 cm _ P0.out.drew (by unfold maxLen; omega) ha).mono ?_; rintro r w1 ⟨rfl, s1, q1⟩; obtain ⟨cs1, k1⟩ := P0.out.drew.blk; have P1 : Hid (Scan 95 33 w1 g1 L e) := s1; have R1 := Lib.hid (R0.out.drew.other q1 k1 (by decide) (by decide)); have W1 := Lib.hid (own_only (own_below W0.out (Below.refl _ _).drew) q1 k1 (by decide)); have K1 := Lib.hid (K0.out.drew.only q1 (K0.out.drew.apart k1 (by decide))); have c1 := K1.out.c3; have B1 := Lib.hid (Only.after_below (chain0 B0.out (Below.refl _ _).drew) q1 hg1); clear s1 q1 k1) | (go_at_call 29; refine (raccept_no L e w.heap.size cm _ R1.out (by unfold maxLen; omega) ha).mono ?_; rintro r w2 ⟨rfl, s2, q2⟩; obtain ⟨cs2, k2⟩ := R1.out.blk; have R2 : Hid (Scan 41 34 w2 w.heap.size L e) := s2; have P2 := Lib.hid (P1.out.other q2 k2 (by decide) (by decide)); have W2 := Lib.hid (own_only W1.out q2 k2 (by decide)); have K2 := Lib.hid (K1.out.only q2 (K1.out.apart k2 (by decide))); have c2 := K2.out.c3; have B2 := Lib.hid (Only.after_below B1.out q2 (Nat.le_refl _)); clear s2 q2 k2))
              generalize hL : L = L2 at *
              generalize hE : e = e2 at *
              clear hL hE
              obtain ⟨A8, c8, hb8, hx1, hx2, hx3⟩ := R2.out
              have d8 := hb8.c2
              clear hb8 hx1 hx2 hx3
              go_wp2_with fail
              go_quiet (first | (go_at_call 38; refine (err_any L2 e2 g1 _ (P2.out.drewN _)).mono ?_; rintro r w' ⟨rfl, rfl⟩; exact ⟨rfl, _, rfl⟩) | (go_at_call 39; refine (end_any L2 e2 g1 _ (P2.out.drewN _) (by unfold maxLen; omega)).mono ?_; rintro r w' ⟨rfl, rfl⟩; exact ⟨rfl, _, rfl⟩) | (go_at_call 40; refine (rend_any L2 e2 w.heap.size _ (R2.out.drewN _) (by unfold maxLen; omega)).mono ?_; rintro r w' ⟨rfl, rfl⟩; exact ⟨rfl, _, rfl⟩))
              have P9 := Lib.hid (P2.out.drewN nq)
              have R9 := Lib.hid (R2.out.drewN nq)
              have W9 := Lib.hid (own_below W2.out (drewN_below _ nq))
              have B9 := Lib.hid (chain0 B2.out (drewN_below _ nq))
              generalize World.drewN _ nq = w9 at *
              go_wp2_with fail
              go_roundw
              case rel => exact ⟨i + 1, L2, e2, by omega, by omega, by go_num, P9, R9, W9, B9⟩
              case measure => simp [intOf]; omega
          have n2 : (ck == 2) = false := by simpa using h2
          by_cases h3 : ck = 3
          · subst h3
            have hl2 : (expL L e cm).length ≤ 200 := by have := expL_len L e cm; omega
            go_wp2_with fail
            refine (expect_any L e g1 cm _ P0.out (by unfold maxLen; omega)).mono ?_
            rintro r w1 ⟨rfl, s1, q1⟩
            obtain ⟨cs1, k1⟩ := P0.out.blk
            have P1 : Hid (Scan 95 33 w1 g1 (expL L e cm) (expE L e cm)) := s1
            have R1 := Lib.hid (R0.out.other q1 k1 (by decide) (by decide))
            have W1 := Lib.hid (own_only W0.out q1 k1 (by decide))
            have K1 := Lib.hid (K0.out.only q1 (K0.out.apart k1 (by decide)))
            have c1 := K1.out.c3
            have B1 := Lib.hid (Only.after_below B0.out q1 hg1)
            clear s1 q1 k1
            go_wp2_with fail
            refine (rexpect_any L e w.heap.size cm _ R1.out (by unfold maxLen; omega)).mono ?_
            rintro r w2 ⟨rfl, s2, q2⟩
            obtain ⟨cs2, k2⟩ := R1.out.blk
            have R2 : Hid (Scan 41 34 w2 w.heap.size (expL L e cm) (expE L e cm)) := s2
            have P2 := Lib.hid (P1.out.other q2 k2 (by decide) (by decide))
            have W2 := Lib.hid (own_only W1.out q2 k2 (by decide))
            have K2 := Lib.hid (K1.out.only q2 (K1.out.apart k2 (by decide)))
            have c2 := K2.out.c3
            have B2 := Lib.hid (Only.after_below B1.out q2 (Nat.le_refl _))
            clear s2 q2 k2
            generalize hL : expL L e cm = L2 at *
            generalize hE : expE L e cm = e2 at *
            clear hL hE
            obtain ⟨A8, c8, hb8, hx1, hx2, hx3⟩ := R2.out
            have d8 := hb8.c2
            clear hb8 hx1 hx2 hx3
            go_wp2_with fail
            go_quiet (first | (go_at_call 38; refine (err_any L2 e2 g1 _ (P2.out.drewN _)).mono ?_; rintro r w' ⟨rfl, rfl⟩; exact ⟨rfl, _, rfl⟩) | (go_at_call 39; refine (end_any L2 e2 g1 _ (P2.out.drewN _) (by unfold maxLen; omega)).mono ?_; rintro r w' ⟨rfl, rfl⟩; exact ⟨rfl, _, rfl⟩) | (go_at_call 40; refine (rend_any L2 e2 w.heap.size _ (R2.out.drewN _) (by unfold maxLen; omega)).mono ?_; rintro r w' ⟨rfl, rfl⟩; exact ⟨rfl, _, rfl⟩))
            have P9 := Lib.hid (P2.out.drewN nq)
            have R9 := Lib.hid (R2.out.drewN nq)
            have W9 := Lib.hid (own_below W2.out (drewN_below _ nq))
            have B9 := Lib.hid (chain0 B2.out (drewN_below _ nq))
            generalize World.drewN _ nq = w9 at *
            go_wp2_with fail
            go_roundw
            case rel => exact ⟨i + 1, L2, e2, by omega, by omega, by go_num, P9, R9, W9, B9⟩
            case measure => simp [intOf]; omega
          have n3 : (ck == 3) = false := by simpa using h3
          by_cases h4 : ck = 4
          · subst h4
            have hl2 : (nameL L e).length ≤ 200 := by have := nameL_len L e; omega
            go_wp2_with fail
            refine (name_any L e g1 _ P0.out (by unfold maxLen; omega)).mono ?_
            rintro r w1 ⟨rfl, s1, q1⟩
            obtain ⟨cs1, k1⟩ := P0.out.blk
            have P1 : Hid (Scan 95 33 w1 g1 (nameL L e) (nameE L e)) := s1
            have R1 := Lib.hid (R0.out.other q1 k1 (by decide) (by decide))
            have W1 := Lib.hid (own_only W0.out q1 k1 (by decide))
            have K1 := Lib.hid (K0.out.only q1 (K0.out.apart k1 (by decide)))
            have c1 := K1.out.c3
            have B1 := Lib.hid (Only.after_below B0.out q1 hg1)
            clear s1 q1 k1
            go_wp2_with fail
            refine (rname_any L e w.heap.size _ R1.out (by unfold maxLen; omega)).mono ?_
            rintro r w2 ⟨rfl, s2, q2⟩
            obtain ⟨cs2, k2⟩ := R1.out.blk
            have R2 : Hid (Scan 41 34 w2 w.heap.size (nameL L e) (nameE L e)) := s2
            have P2 := Lib.hid (P1.out.other q2 k2 (by decide) (by decide))
            have W2 := Lib.hid (own_only W1.out q2 k2 (by decide))
            have K2 := Lib.hid (K1.out.only q2 (K1.out.apart k2 (by decide)))
            have c2 := K2.out.c3
            have B2 := Lib.hid (Only.after_below B1.out q2 (Nat.le_refl _))
            clear s2 q2 k2
            generalize hL : nameL L e = L2 at *
            generalize hE : nameE L e = e2 at *
            clear hL hE
            obtain ⟨A8, c8, hb8, hx1, hx2, hx3⟩ := R2.out
            have d8 := hb8.c2
            clear hb8 hx1 hx2 hx3
            go_wp2_with fail
            go_quiet (first | (go_at_call 38; refine (err_any L2 e2 g1 _ (P2.out.drewN _)).mono ?_; rintro r w' ⟨rfl, rfl⟩; exact ⟨rfl, _, rfl⟩) | (go_at_call 39; refine (end_any L2 e2 g1 _ (P2.out.drewN _) (by unfold maxLen; omega)).mono ?_; rintro r w' ⟨rfl, rfl⟩; exact ⟨rfl, _, rfl⟩) | (go_at_call 40; refine (rend_any L2 e2 w.heap.size _ (R2.out.drewN _) (by unfold maxLen; omega)).mono ?_; rintro r w' ⟨rfl, rfl⟩; exact ⟨rfl, _, rfl⟩))
            have P9 := Lib.hid (P2.out.drewN nq)
            have R9 := Lib.hid (R2.out.drewN nq)
            have W9 := Lib.hid (own_below W2.out (drewN_below _ nq))
            have B9 := Lib.hid (chain0 B2.out (drewN_below _ nq))
            generalize World.drewN _ nq = w9 at *
            go_wp2_with fail
            go_roundw
            case rel => exact ⟨i + 1, L2, e2, by omega, by omega, by go_num, P9, R9, W9, B9⟩
            case measure => simp [intOf]; omega
          have n4 : (ck == 4) = false := by simpa using h4
          by_cases h5 : ck = 5
          · subst h5
            have hl2 : (amtL L e cn).length ≤ 200 := by have := amtL_len L e cn; omega
            go_wp2_with fail
            go_region_held3 (fun w' => w'.cell? ⟨wr.heap.size, 2, none⟩ = some (.int .i64 cn)) (go_keep) (first | (go_at_call 34; refine (amount_any L e cn g1 _ P0.out.drew (by unfold maxLen; omega)).mono ?_; rintro r w1 ⟨rfl, s1, q1⟩; obtain ⟨cs1, k1⟩ := P0.out.drew.blk; have P1 : Hid (Scan 95 33 w1 g1 (amtL L e cn) (amtE L e cn)) := s1; have R1 := Lib.hid (R0.out.drew.other q1 k1 (by decide) (by decide)); have W1 := Lib.hid (own_only (own_below W0.out (Below.refl _ _).drew) q1 k1 (by decide)); have K1 := Lib.hid (K0.out.drew.only q1 (K0.out.drew.apart k1 (by decide))); have c1 := K1.out.c3; have B1 := Lib.hid (Only.after_below (chain0 B0.out (Below.refl _ _).drew) q1 hg1); clear s1 q1 k1) | (go_at_call 35; refine (ramount_any L e cn w.heap.size _ R1.out (by unfold maxLen; omega)).mono ?_; rintro r w2 ⟨rfl, s2, q2⟩; obtain ⟨cs2, k2⟩ := R1.out.blk; have R2 : Hid (Scan 41 34 w2 w.heap.size (amtL L e cn) (amtE L e cn)) := s2; have P2 := Lib.hid (P1.out.other q2 k2 (by decide) (by decide)); have W2 := Lib.hid (own_only W1.out q2 k2 (by decide)); have K2 := Lib.hid (K1.out.only q2 (K1.out.apart k2 (by decide))); have c2 := K2.out.c3; have B2 := Lib.hid (Only.after_below B1.out q2 (Nat.le_refl _)); clear s2 q2 k2))
            generalize hL : amtL L e cn = L2 at *
            generalize hE : amtE L e cn = e2 at *
            clear hL hE
            obtain ⟨A8, c8, hb8, hx1, hx2, hx3⟩ := R2.out
            have d8 := hb8.c2
            clear hb8 hx1 hx2 hx3
            go_wp2_with fail
            go_quiet (first | (go_at_call 38; refine (err_any L2 e2 g1 _ (P2.out.drewN _)).mono ?_; rintro r w' ⟨rfl, rfl⟩; exact ⟨rfl, _, rfl⟩) | (go_at_call 39; refine (end_any L2 e2 g1 _ (P2.out.drewN _) (by unfold maxLen; omega)).mono ?_; rintro r w' ⟨rfl, rfl⟩; exact ⟨rfl, _, rfl⟩) | (go_at_call 40; refine (rend_any L2 e2 w.heap.size _ (R2.out.drewN _) (by unfold maxLen; omega)).mono ?_; rintro r w' ⟨rfl, rfl⟩; exact ⟨rfl, _, rfl⟩))
            have P9 := Lib.hid (P2.out.drewN nq)
            have R9 := Lib.hid (R2.out.drewN nq)
            have W9 := Lib.hid (own_below W2.out (drewN_below _ nq))
            have B9 := Lib.hid (chain0 B2.out (drewN_below _ nq))
            generalize World.drewN _ nq = w9 at *
            go_wp2_with fail
            go_roundw
            case rel => exact ⟨i + 1, L2, e2, by omega, by omega, by go_num, P9, R9, W9, B9⟩
            case measure => simp [intOf]; omega
          have n5 : (ck == 5) = false := by simpa using h5
          by_cases h6 : ck = 6
          · subst h6
            have hl2 : L.length ≤ 200 := hL
            go_wp2_with fail
            refine (fail_any L e cn g1 _ P0.out).mono ?_
            rintro r w1 ⟨rfl, s1, q1⟩
            obtain ⟨cs1, k1⟩ := P0.out.blk
            have P1 : Hid (Scan 95 33 w1 g1 L (failE e cn)) := s1
            have R1 := Lib.hid (R0.out.other q1 k1 (by decide) (by decide))
            have W1 := Lib.hid (own_only W0.out q1 k1 (by decide))
            have K1 := Lib.hid (K0.out.only q1 (K0.out.apart k1 (by decide)))
            have c1 := K1.out.c3
            have B1 := Lib.hid (Only.after_below B0.out q1 hg1)
            clear s1 q1 k1
            go_wp2_with fail
            refine (rfail_any L e cn w.heap.size _ R1.out).mono ?_
            rintro r w2 ⟨rfl, s2, q2⟩
            obtain ⟨cs2, k2⟩ := R1.out.blk
            have R2 : Hid (Scan 41 34 w2 w.heap.size L (failE e cn)) := s2
            have P2 := Lib.hid (P1.out.other q2 k2 (by decide) (by decide))
            have W2 := Lib.hid (own_only W1.out q2 k2 (by decide))
            have K2 := Lib.hid (K1.out.only q2 (K1.out.apart k2 (by decide)))
            have c2 := K2.out.c3
            have B2 := Lib.hid (Only.after_below B1.out q2 (Nat.le_refl _))
            clear s2 q2 k2
            generalize hL : L = L2 at *
            generalize hE : failE e cn = e2 at *
            clear hL hE
            obtain ⟨A8, c8, hb8, hx1, hx2, hx3⟩ := R2.out
            have d8 := hb8.c2
            clear hb8 hx1 hx2 hx3
            go_wp2_with fail
            go_quiet (first | (go_at_call 38; refine (err_any L2 e2 g1 _ (P2.out.drewN _)).mono ?_; rintro r w' ⟨rfl, rfl⟩; exact ⟨rfl, _, rfl⟩) | (go_at_call 39; refine (end_any L2 e2 g1 _ (P2.out.drewN _) (by unfold maxLen; omega)).mono ?_; rintro r w' ⟨rfl, rfl⟩; exact ⟨rfl, _, rfl⟩) | (go_at_call 40; refine (rend_any L2 e2 w.heap.size _ (R2.out.drewN _) (by unfold maxLen; omega)).mono ?_; rintro r w' ⟨rfl, rfl⟩; exact ⟨rfl, _, rfl⟩))
            have P9 := Lib.hid (P2.out.drewN nq)
            have R9 := Lib.hid (R2.out.drewN nq)
            have W9 := Lib.hid (own_below W2.out (drewN_below _ nq))
            have B9 := Lib.hid (chain0 B2.out (drewN_below _ nq))
            generalize World.drewN _ nq = w9 at *
            go_wp2_with fail
            go_roundw
            case rel => exact ⟨i + 1, L2, e2, by omega, by omega, by go_num, P9, R9, W9, B9⟩
            case measure => simp [intOf]; omega
          have n6 : (ck == 6) = false := by simpa using h6
          have hl2 : L.length ≤ 200 := hL
          generalize hL : L = L2 at *
          generalize hE : e = e2 at *
          clear hL hE
          obtain ⟨A8, c8, hb8, hx1, hx2, hx3⟩ := R0.out
          have d8 := hb8.c2
          clear hb8 hx1 hx2 hx3
          go_wp2_with fail
          go_quiet (first | (go_at_call 38; refine (err_any L2 e2 g1 _ (P0.out.drewN _)).mono ?_; rintro r w' ⟨rfl, rfl⟩; exact ⟨rfl, _, rfl⟩) | (go_at_call 39; refine (end_any L2 e2 g1 _ (P0.out.drewN _) (by unfold maxLen; omega)).mono ?_; rintro r w' ⟨rfl, rfl⟩; exact ⟨rfl, _, rfl⟩) | (go_at_call 40; refine (rend_any L2 e2 w.heap.size _ (R0.out.drewN _) (by unfold maxLen; omega)).mono ?_; rintro r w' ⟨rfl, rfl⟩; exact ⟨rfl, _, rfl⟩))
          have P9 := Lib.hid (P0.out.drewN nq)
          have R9 := Lib.hid (R0.out.drewN nq)
          have W9 := Lib.hid (own_below W0.out (drewN_below _ nq))
          have B9 := Lib.hid (chain0 B0.out (drewN_below _ nq))
          generalize World.drewN _ nq = w9 at *
          go_wp2_with fail
          go_roundw
          case rel => exact ⟨i + 1, L2, e2, by omega, by omega, by go_num, P9, R9, W9, B9⟩
          case measure => simp [intOf]; omega
        · obtain rfl : i = S.length := by omega
          have hdk2 : decide ((S.length : Int) < (S.length : Int)) = false := by simp
          go_wp2_with fail
          refine (equal_same l _ _ _ (by omega) (H1.out.keep B.out) (Sl.of_own W.out)).mono ?_
          rintro r w3 ⟨rfl, b3⟩
          have B3 := Lib.hid (chain0 B.out b3)
          clear b3 B P R W
          go_wp2_with fail
          refine (AW.out _).mono ?_
          rintro r w4 ⟨rfl, b4⟩
          have B4 := Lib.hid (chain0 B3.out b4)
          clear b4 B3
          go_wp2_with fail
          go_ret
          exact ⟨rfl, B4.out⟩
end Lex
end Go.Proofs.Ytabkaaapkcadhaa
