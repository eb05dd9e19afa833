/- The reference's Add of fractions. Printed by gen_fv5.py. The reference's Sub and Cmp of fractions. Printed by gen_fv6.py. -/
import Derived.Test.YthehchdonmmpaaaGreatDoorPs15
namespace Go.Proofs.YthehchdonmmpaaaGreatDoor
open Go.ChangeShapes Go.WideShapes Go.ChangeAt Go.RowKit
set_option linter.unusedVariables false
set_option linter.unusedSimpArgs false
namespace Fr
theorem below_newd (w : World) (o : Obj) : Below w.heap.size w (w.alloc o).drew := (below_new w o).drew
theorem far3 {w : World} {g g8 : Nat} {t : TypeId} {cs : Array Value} (K : Blk w g t cs) (h : g < g8) (x y z : Value) : Blk (((w.setCell ⟨g8, 0, none⟩ x).setCell ⟨g8, 1, none⟩ y).setCell ⟨g8, 2, none⟩ z) g t cs :=
  ((K.far (by show g ≠ g8; omega) _).far (by show g ≠ g8; omega) _).far (by show g ≠ g8; omega) _
theorem frac_puts {w w2 : World} {g : Nat} {b0 sg : Bool} {B1 B2 A1 A2 : Option Addr} {m1 k1 m2 k2 c1 c2 n d : Nat} (K : Blk w2 g 47 #[.bool b0, .slice B1 m1 k1, .slice B2 m2 k2]) (hg : w.heap.size ≤ g) (S1 : NS w2 (.slice A1 (digs n).length c1) (digs n)) (S2 : NS w2 (.slice A2 (digs d).length c2) (digs d)) (B : Below w.heap.size w w2) {g' : Nat} {cs : Array Value} (K' : Blk w2 g' 47 cs) (hne : g' < g) :
    ∃ w7, (((w2.setCell ⟨g, 0, none⟩ (.bool sg)).setCell ⟨g, 1, none⟩ (.slice A1 (digs n).length c1)).setCell ⟨g, 2, none⟩ (.slice A2 (digs d).length c2)) = w7 ∧ NS w7 (.slice A1 (digs n).length c1) (digs n) ∧ NS w7 (.slice A2 (digs d).length c2) (digs d) ∧ Below w.heap.size w w7 ∧ Blk w7 g' 47 cs ∧ Blk w7 g 47 #[.bool sg, .slice A1 (digs n).length c1, .slice A2 (digs d).length c2] := by
  have OE : OnlyG g w2 _ := (((OnlyG.refl g w2).put 0 (.bool sg)).put 1 (.slice A1 (digs n).length c1)).put 2 (.slice A2 (digs d).length c2)
  exact ⟨_, rfl, ns_other K (frac_free _ _ _ _ _ _ _) S1 OE, ns_other K (frac_free _ _ _ _ _ _ _) S2 OE, OE.below B hg, far3 K' hne _ _ _, ((K.put 0 (.bool sg)).put 1 (.slice A1 (digs n).length c1)).put 2 (.slice A2 (digs d).length c2)⟩
set_option maxHeartbeats 4000000 in
set_option maxRecDepth 20000 in
theorem fadd_same (s1 s2 : Bool) (A1 A2 A3 A4 : Option Addr) (c1 c2 c3 c4 n1 d1 n2 d2 : Nat) (w : World) (l1 : (digs n1).length ≤ 1000) (l2 : (digs d1).length ≤ 1000) (l3 : (digs n2).length ≤ 1000) (l4 : (digs d2).length ≤ 1000) (e1 : d1 ≠ 0) (e2 : d2 ≠ 0) (hs : s1 = s2)
    (h1 : NS w (.slice A1 (digs n1).length c1) (digs n1)) (h2 : NS w (.slice A2 (digs d1).length c2) (digs d1)) (h3 : NS w (.slice A3 (digs n2).length c3) (digs n2)) (h4 : NS w (.slice A4 (digs d2).length c4) (digs d2)) :
    Calls Tryz.prog 72 #[.agg #[.bool s1, .slice A1 (digs n1).length c1, .slice A2 (digs d1).length c2], .agg #[.bool s2, .slice A3 (digs n2).length c3, .slice A4 (digs d2).length c4]] w (FracPost (s1 && decide (n1 * d2 + n2 * d1 ≠ 0)) ((n1 * d2 + n2 * d1) / Nat.gcd (n1 * d2 + n2 * d1) (d1 * d2)) (d1 * d2 / Nat.gcd (n1 * d2 + n2 * d1) (d1 * d2)) w) := by
  have M1 : Hid (∀ w', Below w.heap.size w w' → Calls Tryz.prog 93 #[.slice A1 (digs n1).length c1, .slice A4 (digs d2).length c4] w' (NatPost (n1 * d2) w')) := fun w' b => by
    have := rmul_any (digs n1) (digs d2) _ _ w' (by omega) (by omega) (Dg.digs _) (Dg.digs _) (h1.keep b) (h4.keep b)
    rw [nat_digs, nat_digs] at this
    exact this
  unfold NatPost at M1
  have M2 : Hid (∀ w', Below w.heap.size w w' → Calls Tryz.prog 93 #[.slice A3 (digs n2).length c3, .slice A2 (digs d1).length c2] w' (NatPost (n2 * d1) w')) := fun w' b => by
    have := rmul_any (digs n2) (digs d1) _ _ w' (by omega) (by omega) (Dg.digs _) (Dg.digs _) (h3.keep b) (h2.keep b)
    rw [nat_digs, nat_digs] at this
    exact this
  unfold NatPost at M2
  have M3 : Hid (∀ w', Below w.heap.size w w' → Calls Tryz.prog 93 #[.slice A2 (digs d1).length c2, .slice A4 (digs d2).length c4] w' (NatPost (d1 * d2) w')) := fun w' b => by
    have := rmul_any (digs d1) (digs d2) _ _ w' (by omega) (by omega) (Dg.digs _) (Dg.digs _) (h2.keep b) (h4.keep b)
    rw [nat_digs, nat_digs] at this
    exact this
  unfold NatPost at M3
  have hm : ∀ x y : Nat, (digs x).length ≤ 1000 → (digs y).length ≤ 1000 → (digs (x * y)).length ≤ 2000 := fun x y hx hy => Nat.le_trans (digs_mul_len (lt_digs_len x) (lt_digs_len y)) (by omega)
  have HX : Hid ((digs (n1 * d2)).length ≤ 2000 ∧ (digs (n2 * d1)).length ≤ 2000 ∧ (digs (d1 * d2)).length ≤ 2000 ∧ d1 * d2 ≠ 0) := ⟨hm _ _ l1 l4, hm _ _ l3 l2, hm _ _ l2 l4, Nat.mul_ne_zero e1 e2⟩
  have hP : Hid (Blk (((w.alloc (.cells #[.bool s1, .slice A1 (digs n1).length c1, .slice A2 (digs d1).length c2] 47)).alloc (.cells #[.bool s2, .slice A3 (digs n2).length c3, .slice A4 (digs d2).length c4] 47)).alloc (.cells #[.bool false, .slice none 0 0, .slice none 0 0] 47)) w.heap.size 47 #[.bool s1, .slice A1 (digs n1).length c1, .slice A2 (digs d1).length c2] ∧ Blk (((w.alloc (.cells #[.bool s1, .slice A1 (digs n1).length c1, .slice A2 (digs d1).length c2] 47)).alloc (.cells #[.bool s2, .slice A3 (digs n2).length c3, .slice A4 (digs d2).length c4] 47)).alloc (.cells #[.bool false, .slice none 0 0, .slice none 0 0] 47)) (w.heap.size + 1) 47 #[.bool s2, .slice A3 (digs n2).length c3, .slice A4 (digs d2).length c4] ∧ Blk (((w.alloc (.cells #[.bool s1, .slice A1 (digs n1).length c1, .slice A2 (digs d1).length c2] 47)).alloc (.cells #[.bool s2, .slice A3 (digs n2).length c3, .slice A4 (digs d2).length c4] 47)).alloc (.cells #[.bool false, .slice none 0 0, .slice none 0 0] 47)) (w.heap.size + 2) 47 #[.bool false, .slice none 0 0, .slice none 0 0] ∧ Below w.heap.size w (((w.alloc (.cells #[.bool s1, .slice A1 (digs n1).length c1, .slice A2 (digs d1).length c2] 47)).alloc (.cells #[.bool s2, .slice A3 (digs n2).length c3, .slice A4 (digs d2).length c4] 47)).alloc (.cells #[.bool false, .slice none 0 0, .slice none 0 0] 47))) := So.three_new w _ _ _ _ _ _
  have q1 : (s1 == s2) = true := by rw [hs]; simp
  have HS := Lib.hid hs
  clear h1 h2 h3 h4 l1 l2 l3 l4 e1 e2 hm hs
  generalize n1 * d2 = x at *
  generalize n2 * d1 = y at *
  generalize d1 * d2 = dd at *
  obtain ⟨N, hN⟩ : ∃ N, N = x + y := ⟨_, rfl⟩
  rw [← hN]
  obtain ⟨sg, hsg⟩ : ∃ sg, sg = (s1 && decide (N ≠ 0)) := ⟨_, rfl⟩
  obtain ⟨nn, hnn⟩ : ∃ nn, nn = N / Nat.gcd N dd := ⟨_, rfl⟩
  obtain ⟨dn, hdn⟩ : ∃ dn, dn = dd / Nat.gcd N dd := ⟨_, rfl⟩
  rw [← hsg, ← hnn, ← hdn]
  have CK : Hid (∀ (vn vd : Value) (w' : World), (digs N).length ≤ 10000 → NS w' vn (digs N) → NS w' vd (digs dd) → Calls Tryz.prog 74 #[.bool s1, vn, vd] w' fun e w'' => ∃ A7 c7 A8 c8, e = .returned (.tuple #[.agg #[.bool sg, .slice A7 (digs nn).length c7, .slice A8 (digs dn).length c8], .int .i64 0]) ∧ NS w'' (.slice A7 (digs nn).length c7) (digs nn) ∧ NS w'' (.slice A8 (digs dn).length c8) (digs dn) ∧ Below w'.heap.size w' w'') := fun vn vd w' hl u1 u2 => by
    refine (rmake_any s1 N dd vn vd w' hl (by have := HX.out.2.2.1; omega) HX.out.2.2.2 u1 u2).mono ?_
    rintro e w'' ⟨v1, v2, rfl, z1, z2, z3⟩
    rw [← hsg]
    rw [← hnn] at z1
    rw [← hdn] at z2
    obtain ⟨A7, c7, rfl, _⟩ := ns_cases z1
    obtain ⟨A8, c8, rfl, _⟩ := ns_cases z2
    exact ⟨_, _, _, _, rfl, z1, z2, z3⟩
  have HN := Lib.hid hN
  clear hN hsg hnn hdn
  go_enter Tryz.func72, Tryz.ntmps72
  go_upto_region 1 with fail
  generalize (((w.alloc (.cells #[.bool s1, .slice A1 (digs n1).length c1, .slice A2 (digs d1).length c2] 47)).alloc (.cells #[.bool s2, .slice A3 (digs n2).length c3, .slice A4 (digs d2).length c4] 47)).alloc (.cells #[.bool false, .slice none 0 0, .slice none 0 0] 47)) = w1 at *
  have KA := Lib.hid hP.out.1.drew
  have KB := Lib.hid hP.out.2.1.drew
  have KR := Lib.hid hP.out.2.2.1.drew
  have BW := Lib.hid hP.out.2.2.2.drew
  clear hP
  have ka := KA.out.c3
  have kb := KB.out.c3
  go_region_held3 (fun w' => w'.cell? ⟨w.heap.size, 1, none⟩ = some (.slice A1 (digs n1).length c1) ∧ w'.cell? ⟨w.heap.size, 2, none⟩ = some (.slice A2 (digs d1).length c2) ∧ w'.cell? ⟨w.heap.size + 1, 1, none⟩ = some (.slice A3 (digs n2).length c3) ∧ w'.cell? ⟨w.heap.size + 1, 2, none⟩ = some (.slice A4 (digs d2).length c4)) (first | exact ⟨ka.2.1.1, ka.2.2.1, kb.2.1.1, kb.2.2.1⟩ | go_keep) (first | (go_at_call 93; with_reducible refine (M1.out _ BW.out).mono ?_; rintro e wa ⟨v1, rfl, t1, d⟩; have T1 := Lib.hid t1; obtain ⟨A5, c5, rfl, _⟩ := ns_cases t1; replace KA := Lib.hid (KA.out.below' d); replace KB := Lib.hid (KB.out.below' d); replace KR := Lib.hid (KR.out.below' d); replace BW := Lib.hid (chain0 BW.out d); replace ka := KA.out.c3; replace kb := KB.out.c3; clear d t1) | (go_at_call 93; with_reducible refine (M2.out _ BW.out).mono ?_; rintro e wb ⟨v2, rfl, t2, d⟩; have T2 := Lib.hid t2; obtain ⟨A6, c6, rfl, _⟩ := ns_cases t2; replace KA := Lib.hid (KA.out.below' d); replace KB := Lib.hid (KB.out.below' d); replace KR := Lib.hid (KR.out.below' d); replace BW := Lib.hid (chain0 BW.out d); replace ka := KA.out.c3; replace kb := KB.out.c3; replace T1 := Lib.hid (T1.out.keep d); clear d t2))
  go_wp2_with fail
  refine (M3.out _ BW.out).mono ?_
  rintro e w4 ⟨v3, rfl, t3, d⟩
  have T3 := Lib.hid t3
  obtain ⟨A9, c9, rfl, _⟩ := ns_cases t3
  replace KA := Lib.hid (KA.out.below' d)
  replace KB := Lib.hid (KB.out.below' d)
  replace KR := Lib.hid (KR.out.below' d)
  replace BW := Lib.hid (chain0 BW.out d)
  replace ka := KA.out.c3
  replace kb := KB.out.c3
  replace T1 := Lib.hid (T1.out.keep d)
  replace T2 := Lib.hid (T2.out.keep d)
  clear d t3
  go_wp2_with fail
  have HLN : Hid ((digs N).length ≤ 10000) := by
    show _ ≤ _
    rw [HN.out]
    exact Nat.le_trans (digs_add_len HX.out.1 HX.out.2.1) (by omega)
  have CA : Hid (∀ w', NS w' (.slice A5 (digs x).length c5) (digs x) → NS w' (.slice A6 (digs y).length c6) (digs y) → Calls Tryz.prog 49 #[.slice A5 (digs x).length c5, .slice A6 (digs y).length c6] w' (NatPost N w')) := fun w' u1 u2 => by
    have := radd_any (digs x) (digs y) _ _ w' (by have := HX.out.1; omega) (by have := HX.out.2.1; omega) (Dg.digs _) (Dg.digs _) u1 u2
    rw [nat_digs, nat_digs, ← HN.out] at this
    exact this
  unfold NatPost at CA
  have kad := fun o => (((KA.out.alloc o).drew).c3).1.1
  have T1w := Lib.hid T1.out
  have T2w := Lib.hid T2.out
  have T3w := Lib.hid T3.out
  have KAw := Lib.hid KA.out
  have KBw := Lib.hid KB.out
  have KRw := Lib.hid KR.out
  have BWw := Lib.hid BW.out
  replace KA := Lib.hid KA.out.drew
  replace KB := Lib.hid KB.out.drew
  replace KR := Lib.hid KR.out.drew
  replace BW := Lib.hid BW.out.drew
  replace T1 := Lib.hid (T1.out.keep ((Below.refl _ _).drew))
  replace T2 := Lib.hid (T2.out.keep ((Below.refl _ _).drew))
  replace T3 := Lib.hid (T3.out.keep ((Below.refl _ _).drew))
  replace ka := KA.out.c3
  replace kb := KB.out.c3
  go_region_held3 (fun w' => w'.cell? ⟨w.heap.size, 0, none⟩ = some (.bool s1)) (first | exact ka.1.1 | exact kad _ | exact ((far3 KA.out (by have := H8.out; omega) _ _ _).c3).1.1 | go_keep) (first
    | (go_at_call 49; with_reducible refine (CA.out _ T1.out T2.out).mono ?_; rintro e w5 ⟨v4, rfl, t4, d⟩; have T4 := Lib.hid t4; obtain ⟨Ab, cb, rfl, _⟩ := ns_cases t4; replace KA := Lib.hid (KA.out.below' d); replace KB := Lib.hid (KB.out.below' d); replace KR := Lib.hid (KR.out.below' d); replace BW := Lib.hid (chain0 BW.out d); replace ka := KA.out.c3; replace kb := KB.out.c3; replace T3 := Lib.hid (T3.out.keep d); replace kad := fun o => ((KA.out.alloc o).c3).1.1; clear d t4)
    | (go_at_call 49; with_reducible refine (CA.out _ (T1w.out.keep (below_newd _ _)) (T2w.out.keep (below_newd _ _))).mono ?_; rintro e w5 ⟨v4, rfl, t4, d0⟩; have T4 := Lib.hid t4; obtain ⟨Ab, cb, rfl, _⟩ := ns_cases t4; have H8 := Lib.hid KRw.out.lt; have K8 := Lib.hid ((Blk.new _ _ _).drew.below' d0); have d := chain0 (below_newd _ _) d0; replace KA := Lib.hid (KAw.out.below' d); replace KB := Lib.hid (KBw.out.below' d); replace KR := Lib.hid (KRw.out.below' d); replace BW := Lib.hid (chain0 BWw.out d); replace ka := KA.out.c3; replace kb := KB.out.c3; replace T3 := Lib.hid (T3w.out.keep d); replace kad := fun o => ((KA.out.alloc o).c3).1.1; have k8 := K8.out.c3; clear d d0 t4)
    | (go_at_call 74; with_reducible refine (CK.out _ _ _ HLN.out T4.out T3.out).mono ?_; rintro e w6 ⟨A7, c7, A8, c8, rfl, t7, t8, d⟩; replace KA := Lib.hid (KA.out.below' d); replace KB := Lib.hid (KB.out.below' d); replace KR := Lib.hid (KR.out.below' d); replace BW := Lib.hid (chain0 BW.out d); replace ka := KA.out.c3; replace kb := KB.out.c3; have S1 := Lib.hid t7; have S2 := Lib.hid t8; have kr := KR.out.c3; have kl := KR.out.lt; (try (replace K8 := Lib.hid (K8.out.below' d); replace k8 := K8.out.c3)); replace kad := fun o => ((KA.out.alloc o).c3).1.1; clear d t7 t8)
    | (go_at_call 74; with_reducible refine (CK.out _ _ _ HLN.out (T4.out.keep (below_new _ _)) (T3.out.keep (below_new _ _))).mono ?_; rintro e w6 ⟨A7, c7, A8, c8, rfl, t7, t8, d0⟩; have H8 := Lib.hid KR.out.lt; have K8 := Lib.hid ((Blk.new _ _ _).below' d0); have d := chain1 (Below.refl _ _) d0; replace KA := Lib.hid (KA.out.below' d); replace KB := Lib.hid (KB.out.below' d); replace KR := Lib.hid (KR.out.below' d); replace BW := Lib.hid (chain0 BW.out d); replace ka := KA.out.c3; replace kb := KB.out.c3; have S1 := Lib.hid t7; have S2 := Lib.hid t8; have kr := KR.out.c3; have kl := KR.out.lt; have k8 := K8.out.c3; clear d d0 t7 t8))
  · go_wp2_with fail
    obtain ⟨KE, FE, BE⟩ := frac_put (sg := sg) KR.out (by omega) S1.out S2.out BW.out
    exact bodyPost_ret (v := .agg #[.bool sg, .slice A7 (digs nn).length c7, .slice A8 (digs dn).length c8]) (results_blk rfl rfl (KE.alloc _) Tryz.underlying47 rfl (by kernel_rfl)) rfl ⟨_, rfl, FE.keep (below_new _ _), BE.alloc BE.size _⟩
  · obtain ⟨w7, hw7, n1, n2, b7, k7, k9⟩ := frac_puts (sg := sg) K8.out (by have := H8.out; omega) S1.out S2.out BW.out KR.out H8.out
    rw [hw7]
    have N1 := Lib.hid n1
    have N2 := Lib.hid n2
    have B7 := Lib.hid b7
    have K7 := Lib.hid k7
    clear ka kb kr kl k8 kad hw7 n1 n2 b7 k7
    have k8 := k9.c3
    have kr := K7.out.c3
    clear k9
    go_wp2_with fail
    obtain ⟨KE, FE, BE⟩ := frac_put (sg := sg) K7.out (by omega) N1.out N2.out B7.out
    exact bodyPost_ret (v := .agg #[.bool sg, .slice A7 (digs nn).length c7, .slice A8 (digs dn).length c8]) (results_blk rfl rfl KE Tryz.underlying47 rfl (by kernel_rfl)) rfl ⟨_, rfl, FE, BE⟩
  · obtain ⟨w7, hw7, n1, n2, b7, k7, k9⟩ := frac_puts (sg := sg) K8.out (by have := H8.out; omega) S1.out S2.out BW.out KR.out H8.out
    rw [hw7]
    have N1 := Lib.hid n1
    have N2 := Lib.hid n2
    have B7 := Lib.hid b7
    have K7 := Lib.hid k7
    clear ka kb kr kl k8 kad hw7 n1 n2 b7 k7
    have k8 := k9.c3
    have kr := K7.out.c3
    clear k9
    go_wp2_with fail
    obtain ⟨KE, FE, BE⟩ := frac_put (sg := sg) K7.out (by omega) N1.out N2.out B7.out
    exact bodyPost_ret (v := .agg #[.bool sg, .slice A7 (digs nn).length c7, .slice A8 (digs dn).length c8]) (results_blk rfl rfl KE Tryz.underlying47 rfl (by kernel_rfl)) rfl ⟨_, rfl, FE, BE⟩
set_option maxHeartbeats 4000000 in
set_option maxRecDepth 20000 in
theorem fadd_yes (s1 s2 : Bool) (A1 A2 A3 A4 : Option Addr) (c1 c2 c3 c4 n1 d1 n2 d2 : Nat) (w : World) (l1 : (digs n1).length ≤ 1000) (l2 : (digs d1).length ≤ 1000) (l3 : (digs n2).length ≤ 1000) (l4 : (digs d2).length ≤ 1000) (e1 : d1 ≠ 0) (e2 : d2 ≠ 0) (hs : s1 ≠ s2) (hc : n2 * d1 ≤ n1 * d2)
    (h1 : NS w (.slice A1 (digs n1).length c1) (digs n1)) (h2 : NS w (.slice A2 (digs d1).length c2) (digs d1)) (h3 : NS w (.slice A3 (digs n2).length c3) (digs n2)) (h4 : NS w (.slice A4 (digs d2).length c4) (digs d2)) :
    Calls Tryz.prog 72 #[.agg #[.bool s1, .slice A1 (digs n1).length c1, .slice A2 (digs d1).length c2], .agg #[.bool s2, .slice A3 (digs n2).length c3, .slice A4 (digs d2).length c4]] w (FracPost (s1 && decide (n1 * d2 - n2 * d1 ≠ 0)) ((n1 * d2 - n2 * d1) / Nat.gcd (n1 * d2 - n2 * d1) (d1 * d2)) (d1 * d2 / Nat.gcd (n1 * d2 - n2 * d1) (d1 * d2)) w) := by
  have M1 : Hid (∀ w', Below w.heap.size w w' → Calls Tryz.prog 93 #[.slice A1 (digs n1).length c1, .slice A4 (digs d2).length c4] w' (NatPost (n1 * d2) w')) := fun w' b => by
    have := rmul_any (digs n1) (digs d2) _ _ w' (by omega) (by omega) (Dg.digs _) (Dg.digs _) (h1.keep b) (h4.keep b)
    rw [nat_digs, nat_digs] at this
    exact this
  unfold NatPost at M1
  have M2 : Hid (∀ w', Below w.heap.size w w' → Calls Tryz.prog 93 #[.slice A3 (digs n2).length c3, .slice A2 (digs d1).length c2] w' (NatPost (n2 * d1) w')) := fun w' b => by
    have := rmul_any (digs n2) (digs d1) _ _ w' (by omega) (by omega) (Dg.digs _) (Dg.digs _) (h3.keep b) (h2.keep b)
    rw [nat_digs, nat_digs] at this
    exact this
  unfold NatPost at M2
  have M3 : Hid (∀ w', Below w.heap.size w w' → Calls Tryz.prog 93 #[.slice A2 (digs d1).length c2, .slice A4 (digs d2).length c4] w' (NatPost (d1 * d2) w')) := fun w' b => by
    have := rmul_any (digs d1) (digs d2) _ _ w' (by omega) (by omega) (Dg.digs _) (Dg.digs _) (h2.keep b) (h4.keep b)
    rw [nat_digs, nat_digs] at this
    exact this
  unfold NatPost at M3
  have hm : ∀ x y : Nat, (digs x).length ≤ 1000 → (digs y).length ≤ 1000 → (digs (x * y)).length ≤ 2000 := fun x y hx hy => Nat.le_trans (digs_mul_len (lt_digs_len x) (lt_digs_len y)) (by omega)
  have HX : Hid ((digs (n1 * d2)).length ≤ 2000 ∧ (digs (n2 * d1)).length ≤ 2000 ∧ (digs (d1 * d2)).length ≤ 2000 ∧ d1 * d2 ≠ 0) := ⟨hm _ _ l1 l4, hm _ _ l3 l2, hm _ _ l2 l4, Nat.mul_ne_zero e1 e2⟩
  have hP : Hid (Blk (((w.alloc (.cells #[.bool s1, .slice A1 (digs n1).length c1, .slice A2 (digs d1).length c2] 47)).alloc (.cells #[.bool s2, .slice A3 (digs n2).length c3, .slice A4 (digs d2).length c4] 47)).alloc (.cells #[.bool false, .slice none 0 0, .slice none 0 0] 47)) w.heap.size 47 #[.bool s1, .slice A1 (digs n1).length c1, .slice A2 (digs d1).length c2] ∧ Blk (((w.alloc (.cells #[.bool s1, .slice A1 (digs n1).length c1, .slice A2 (digs d1).length c2] 47)).alloc (.cells #[.bool s2, .slice A3 (digs n2).length c3, .slice A4 (digs d2).length c4] 47)).alloc (.cells #[.bool false, .slice none 0 0, .slice none 0 0] 47)) (w.heap.size + 1) 47 #[.bool s2, .slice A3 (digs n2).length c3, .slice A4 (digs d2).length c4] ∧ Blk (((w.alloc (.cells #[.bool s1, .slice A1 (digs n1).length c1, .slice A2 (digs d1).length c2] 47)).alloc (.cells #[.bool s2, .slice A3 (digs n2).length c3, .slice A4 (digs d2).length c4] 47)).alloc (.cells #[.bool false, .slice none 0 0, .slice none 0 0] 47)) (w.heap.size + 2) 47 #[.bool false, .slice none 0 0, .slice none 0 0] ∧ Below w.heap.size w (((w.alloc (.cells #[.bool s1, .slice A1 (digs n1).length c1, .slice A2 (digs d1).length c2] 47)).alloc (.cells #[.bool s2, .slice A3 (digs n2).length c3, .slice A4 (digs d2).length c4] 47)).alloc (.cells #[.bool false, .slice none 0 0, .slice none 0 0] 47))) := So.three_new w _ _ _ _ _ _
  have HC := Lib.hid hc
  clear hc
  have q1 : (s1 == s2) = false := by cases s1 <;> cases s2 <;> first | rfl | exact absurd rfl hs
  clear h1 h2 h3 h4 l1 l2 l3 l4 e1 e2 hm hs
  generalize n1 * d2 = x at *
  generalize n2 * d1 = y at *
  generalize d1 * d2 = dd at *
  obtain ⟨N, hN⟩ : ∃ N, N = x - y := ⟨_, rfl⟩
  rw [← hN]
  obtain ⟨sg, hsg⟩ : ∃ sg, sg = (s1 && decide (N ≠ 0)) := ⟨_, rfl⟩
  obtain ⟨nn, hnn⟩ : ∃ nn, nn = N / Nat.gcd N dd := ⟨_, rfl⟩
  obtain ⟨dn, hdn⟩ : ∃ dn, dn = dd / Nat.gcd N dd := ⟨_, rfl⟩
  rw [← hsg, ← hnn, ← hdn]
  have CK : Hid (∀ (vn vd : Value) (w' : World), (digs N).length ≤ 10000 → NS w' vn (digs N) → NS w' vd (digs dd) → Calls Tryz.prog 74 #[.bool s1, vn, vd] w' fun e w'' => ∃ A7 c7 A8 c8, e = .returned (.tuple #[.agg #[.bool sg, .slice A7 (digs nn).length c7, .slice A8 (digs dn).length c8], .int .i64 0]) ∧ NS w'' (.slice A7 (digs nn).length c7) (digs nn) ∧ NS w'' (.slice A8 (digs dn).length c8) (digs dn) ∧ Below w'.heap.size w' w'') := fun vn vd w' hl u1 u2 => by
    refine (rmake_any s1 N dd vn vd w' hl (by have := HX.out.2.2.1; omega) HX.out.2.2.2 u1 u2).mono ?_
    rintro e w'' ⟨v1, v2, rfl, z1, z2, z3⟩
    rw [← hsg]
    rw [← hnn] at z1
    rw [← hdn] at z2
    obtain ⟨A7, c7, rfl, _⟩ := ns_cases z1
    obtain ⟨A8, c8, rfl, _⟩ := ns_cases z2
    exact ⟨_, _, _, _, rfl, z1, z2, z3⟩
  have HN := Lib.hid hN
  clear hN hsg hnn hdn
  go_enter Tryz.func72, Tryz.ntmps72
  go_upto_region 1 with fail
  generalize (((w.alloc (.cells #[.bool s1, .slice A1 (digs n1).length c1, .slice A2 (digs d1).length c2] 47)).alloc (.cells #[.bool s2, .slice A3 (digs n2).length c3, .slice A4 (digs d2).length c4] 47)).alloc (.cells #[.bool false, .slice none 0 0, .slice none 0 0] 47)) = w1 at *
  have KA := Lib.hid hP.out.1.drew
  have KB := Lib.hid hP.out.2.1.drew
  have KR := Lib.hid hP.out.2.2.1.drew
  have BW := Lib.hid hP.out.2.2.2.drew
  clear hP
  have ka := KA.out.c3
  have kb := KB.out.c3
  go_region_held3 (fun w' => w'.cell? ⟨w.heap.size, 1, none⟩ = some (.slice A1 (digs n1).length c1) ∧ w'.cell? ⟨w.heap.size, 2, none⟩ = some (.slice A2 (digs d1).length c2) ∧ w'.cell? ⟨w.heap.size + 1, 1, none⟩ = some (.slice A3 (digs n2).length c3) ∧ w'.cell? ⟨w.heap.size + 1, 2, none⟩ = some (.slice A4 (digs d2).length c4)) (first | exact ⟨ka.2.1.1, ka.2.2.1, kb.2.1.1, kb.2.2.1⟩ | go_keep) (first | (go_at_call 93; with_reducible refine (M1.out _ BW.out).mono ?_; rintro e wa ⟨v1, rfl, t1, d⟩; have T1 := Lib.hid t1; obtain ⟨A5, c5, rfl, _⟩ := ns_cases t1; replace KA := Lib.hid (KA.out.below' d); replace KB := Lib.hid (KB.out.below' d); replace KR := Lib.hid (KR.out.below' d); replace BW := Lib.hid (chain0 BW.out d); replace ka := KA.out.c3; replace kb := KB.out.c3; clear d t1) | (go_at_call 93; with_reducible refine (M2.out _ BW.out).mono ?_; rintro e wb ⟨v2, rfl, t2, d⟩; have T2 := Lib.hid t2; obtain ⟨A6, c6, rfl, _⟩ := ns_cases t2; replace KA := Lib.hid (KA.out.below' d); replace KB := Lib.hid (KB.out.below' d); replace KR := Lib.hid (KR.out.below' d); replace BW := Lib.hid (chain0 BW.out d); replace ka := KA.out.c3; replace kb := KB.out.c3; replace T1 := Lib.hid (T1.out.keep d); clear d t2))
  go_wp2_with fail
  refine (M3.out _ BW.out).mono ?_
  rintro e w4 ⟨v3, rfl, t3, d⟩
  have T3 := Lib.hid t3
  obtain ⟨A9, c9, rfl, _⟩ := ns_cases t3
  replace KA := Lib.hid (KA.out.below' d)
  replace KB := Lib.hid (KB.out.below' d)
  replace KR := Lib.hid (KR.out.below' d)
  replace BW := Lib.hid (chain0 BW.out d)
  replace ka := KA.out.c3
  replace kb := KB.out.c3
  replace T1 := Lib.hid (T1.out.keep d)
  replace T2 := Lib.hid (T2.out.keep d)
  clear d t3
  go_wp2_with fail
  have CS := rsub_yes (digs x) (digs y) _ _ w4 (by have := HX.out.1; have := HX.out.2.1; omega) (by have := HX.out.1; have := HX.out.2.1; omega) (Dg.digs _) (Dg.digs _) T1.out T2.out (by rw [nat_digs, nat_digs]; have := HC.out; omega)
  rw [nat_digs, nat_digs, ← HN.out] at CS
  unfold NatPost2 at CS
  refine CS.mono ?_
  rintro e w5 ⟨v4, rfl, t4, d⟩
  have T4 := Lib.hid t4
  obtain ⟨Ab, cb, rfl, _⟩ := ns_cases t4
  replace KA := Lib.hid (KA.out.below' d)
  replace KB := Lib.hid (KB.out.below' d)
  replace KR := Lib.hid (KR.out.below' d)
  replace BW := Lib.hid (chain0 BW.out d)
  replace ka := KA.out.c3
  replace kb := KB.out.c3
  replace T3 := Lib.hid (T3.out.keep d)
  clear d t4
  go_wp2_with fail
  refine (CK.out _ _ _ (by rw [HN.out]; exact Nat.le_trans (digs_len_mono (Nat.sub_le _ _)) (by have := HX.out.1; have := HX.out.2.1; omega)) T4.out T3.out).mono ?_
  rintro e w6 ⟨A7, c7, A8, c8, rfl, t7, t8, d⟩
  replace KA := Lib.hid (KA.out.below' d)
  replace KB := Lib.hid (KB.out.below' d)
  replace KR := Lib.hid (KR.out.below' d)
  replace BW := Lib.hid (chain0 BW.out d)
  replace ka := KA.out.c3
  replace kb := KB.out.c3
  have S1 := Lib.hid t7
  have S2 := Lib.hid t8
  have kr := KR.out.c3
  have kl := KR.out.lt
  clear d t7 t8
  go_wp2_with fail
  obtain ⟨KE, FE, BE⟩ := frac_put (sg := sg) KR.out (by omega) S1.out S2.out BW.out
  exact bodyPost_ret (v := .agg #[.bool sg, .slice A7 (digs nn).length c7, .slice A8 (digs dn).length c8]) (results_blk rfl rfl (KE.alloc _) Tryz.underlying47 rfl (by kernel_rfl)) rfl ⟨_, rfl, FE.keep (below_new _ _), BE.alloc BE.size _⟩
set_option maxHeartbeats 4000000 in
set_option maxRecDepth 20000 in
theorem fadd_no (s1 s2 : Bool) (A1 A2 A3 A4 : Option Addr) (c1 c2 c3 c4 n1 d1 n2 d2 : Nat) (w : World) (l1 : (digs n1).length ≤ 1000) (l2 : (digs d1).length ≤ 1000) (l3 : (digs n2).length ≤ 1000) (l4 : (digs d2).length ≤ 1000) (e1 : d1 ≠ 0) (e2 : d2 ≠ 0) (hs : s1 ≠ s2) (hc : n1 * d2 < n2 * d1)
    (h1 : NS w (.slice A1 (digs n1).length c1) (digs n1)) (h2 : NS w (.slice A2 (digs d1).length c2) (digs d1)) (h3 : NS w (.slice A3 (digs n2).length c3) (digs n2)) (h4 : NS w (.slice A4 (digs d2).length c4) (digs d2)) :
    Calls Tryz.prog 72 #[.agg #[.bool s1, .slice A1 (digs n1).length c1, .slice A2 (digs d1).length c2], .agg #[.bool s2, .slice A3 (digs n2).length c3, .slice A4 (digs d2).length c4]] w (FracPost (s2 && decide (n2 * d1 - n1 * d2 ≠ 0)) ((n2 * d1 - n1 * d2) / Nat.gcd (n2 * d1 - n1 * d2) (d1 * d2)) (d1 * d2 / Nat.gcd (n2 * d1 - n1 * d2) (d1 * d2)) w) := by
  have M1 : Hid (∀ w', Below w.heap.size w w' → Calls Tryz.prog 93 #[.slice A1 (digs n1).length c1, .slice A4 (digs d2).length c4] w' (NatPost (n1 * d2) w')) := fun w' b => by
    have := rmul_any (digs n1) (digs d2) _ _ w' (by omega) (by omega) (Dg.digs _) (Dg.digs _) (h1.keep b) (h4.keep b)
    rw [nat_digs, nat_digs] at this
    exact this
  unfold NatPost at M1
  have M2 : Hid (∀ w', Below w.heap.size w w' → Calls Tryz.prog 93 #[.slice A3 (digs n2).length c3, .slice A2 (digs d1).length c2] w' (NatPost (n2 * d1) w')) := fun w' b => by
    have := rmul_any (digs n2) (digs d1) _ _ w' (by omega) (by omega) (Dg.digs _) (Dg.digs _) (h3.keep b) (h2.keep b)
    rw [nat_digs, nat_digs] at this
    exact this
  unfold NatPost at M2
  have M3 : Hid (∀ w', Below w.heap.size w w' → Calls Tryz.prog 93 #[.slice A2 (digs d1).length c2, .slice A4 (digs d2).length c4] w' (NatPost (d1 * d2) w')) := fun w' b => by
    have := rmul_any (digs d1) (digs d2) _ _ w' (by omega) (by omega) (Dg.digs _) (Dg.digs _) (h2.keep b) (h4.keep b)
    rw [nat_digs, nat_digs] at this
    exact this
  unfold NatPost at M3
  have hm : ∀ x y : Nat, (digs x).length ≤ 1000 → (digs y).length ≤ 1000 → (digs (x * y)).length ≤ 2000 := fun x y hx hy => Nat.le_trans (digs_mul_len (lt_digs_len x) (lt_digs_len y)) (by omega)
  have HX : Hid ((digs (n1 * d2)).length ≤ 2000 ∧ (digs (n2 * d1)).length ≤ 2000 ∧ (digs (d1 * d2)).length ≤ 2000 ∧ d1 * d2 ≠ 0) := ⟨hm _ _ l1 l4, hm _ _ l3 l2, hm _ _ l2 l4, Nat.mul_ne_zero e1 e2⟩
  have hP : Hid (Blk (((w.alloc (.cells #[.bool s1, .slice A1 (digs n1).length c1, .slice A2 (digs d1).length c2] 47)).alloc (.cells #[.bool s2, .slice A3 (digs n2).length c3, .slice A4 (digs d2).length c4] 47)).alloc (.cells #[.bool false, .slice none 0 0, .slice none 0 0] 47)) w.heap.size 47 #[.bool s1, .slice A1 (digs n1).length c1, .slice A2 (digs d1).length c2] ∧ Blk (((w.alloc (.cells #[.bool s1, .slice A1 (digs n1).length c1, .slice A2 (digs d1).length c2] 47)).alloc (.cells #[.bool s2, .slice A3 (digs n2).length c3, .slice A4 (digs d2).length c4] 47)).alloc (.cells #[.bool false, .slice none 0 0, .slice none 0 0] 47)) (w.heap.size + 1) 47 #[.bool s2, .slice A3 (digs n2).length c3, .slice A4 (digs d2).length c4] ∧ Blk (((w.alloc (.cells #[.bool s1, .slice A1 (digs n1).length c1, .slice A2 (digs d1).length c2] 47)).alloc (.cells #[.bool s2, .slice A3 (digs n2).length c3, .slice A4 (digs d2).length c4] 47)).alloc (.cells #[.bool false, .slice none 0 0, .slice none 0 0] 47)) (w.heap.size + 2) 47 #[.bool false, .slice none 0 0, .slice none 0 0] ∧ Below w.heap.size w (((w.alloc (.cells #[.bool s1, .slice A1 (digs n1).length c1, .slice A2 (digs d1).length c2] 47)).alloc (.cells #[.bool s2, .slice A3 (digs n2).length c3, .slice A4 (digs d2).length c4] 47)).alloc (.cells #[.bool false, .slice none 0 0, .slice none 0 0] 47))) := So.three_new w _ _ _ _ _ _
  have HC := Lib.hid hc
  clear hc
  have q1 : (s1 == s2) = false := by cases s1 <;> cases s2 <;> first | rfl | exact absurd rfl hs
  clear h1 h2 h3 h4 l1 l2 l3 l4 e1 e2 hm hs
  generalize n1 * d2 = x at *
  generalize n2 * d1 = y at *
  generalize d1 * d2 = dd at *
  obtain ⟨N, hN⟩ : ∃ N, N = y - x := ⟨_, rfl⟩
  rw [← hN]
  obtain ⟨sg, hsg⟩ : ∃ sg, sg = (s2 && decide (N ≠ 0)) := ⟨_, rfl⟩
  obtain ⟨nn, hnn⟩ : ∃ nn, nn = N / Nat.gcd N dd := ⟨_, rfl⟩
  obtain ⟨dn, hdn⟩ : ∃ dn, dn = dd / Nat.gcd N dd := ⟨_, rfl⟩
  rw [← hsg, ← hnn, ← hdn]
  have CK : Hid (∀ (vn vd : Value) (w' : World), (digs N).length ≤ 10000 → NS w' vn (digs N) → NS w' vd (digs dd) → Calls Tryz.prog 74 #[.bool s2, vn, vd] w' fun e w'' => ∃ A7 c7 A8 c8, e = .returned (.tuple #[.agg #[.bool sg, .slice A7 (digs nn).length c7, .slice A8 (digs dn).length c8], .int .i64 0]) ∧ NS w'' (.slice A7 (digs nn).length c7) (digs nn) ∧ NS w'' (.slice A8 (digs dn).length c8) (digs dn) ∧ Below w'.heap.size w' w'') := fun vn vd w' hl u1 u2 => by
    refine (rmake_any s2 N dd vn vd w' hl (by have := HX.out.2.2.1; omega) HX.out.2.2.2 u1 u2).mono ?_
    rintro e w'' ⟨v1, v2, rfl, z1, z2, z3⟩
    rw [← hsg]
    rw [← hnn] at z1
    rw [← hdn] at z2
    obtain ⟨A7, c7, rfl, _⟩ := ns_cases z1
    obtain ⟨A8, c8, rfl, _⟩ := ns_cases z2
    exact ⟨_, _, _, _, rfl, z1, z2, z3⟩
  have HN := Lib.hid hN
  clear hN hsg hnn hdn
  go_enter Tryz.func72, Tryz.ntmps72
  go_upto_region 1 with fail
  generalize (((w.alloc (.cells #[.bool s1, .slice A1 (digs n1).length c1, .slice A2 (digs d1).length c2] 47)).alloc (.cells #[.bool s2, .slice A3 (digs n2).length c3, .slice A4 (digs d2).length c4] 47)).alloc (.cells #[.bool false, .slice none 0 0, .slice none 0 0] 47)) = w1 at *
  have KA := Lib.hid hP.out.1.drew
  have KB := Lib.hid hP.out.2.1.drew
  have KR := Lib.hid hP.out.2.2.1.drew
  have BW := Lib.hid hP.out.2.2.2.drew
  clear hP
  have ka := KA.out.c3
  have kb := KB.out.c3
  go_region_held3 (fun w' => w'.cell? ⟨w.heap.size, 1, none⟩ = some (.slice A1 (digs n1).length c1) ∧ w'.cell? ⟨w.heap.size, 2, none⟩ = some (.slice A2 (digs d1).length c2) ∧ w'.cell? ⟨w.heap.size + 1, 1, none⟩ = some (.slice A3 (digs n2).length c3) ∧ w'.cell? ⟨w.heap.size + 1, 2, none⟩ = some (.slice A4 (digs d2).length c4)) (first | exact ⟨ka.2.1.1, ka.2.2.1, kb.2.1.1, kb.2.2.1⟩ | go_keep) (first | (go_at_call 93; with_reducible refine (M1.out _ BW.out).mono ?_; rintro e wa ⟨v1, rfl, t1, d⟩; have T1 := Lib.hid t1; obtain ⟨A5, c5, rfl, _⟩ := ns_cases t1; replace KA := Lib.hid (KA.out.below' d); replace KB := Lib.hid (KB.out.below' d); replace KR := Lib.hid (KR.out.below' d); replace BW := Lib.hid (chain0 BW.out d); replace ka := KA.out.c3; replace kb := KB.out.c3; clear d t1) | (go_at_call 93; with_reducible refine (M2.out _ BW.out).mono ?_; rintro e wb ⟨v2, rfl, t2, d⟩; have T2 := Lib.hid t2; obtain ⟨A6, c6, rfl, _⟩ := ns_cases t2; replace KA := Lib.hid (KA.out.below' d); replace KB := Lib.hid (KB.out.below' d); replace KR := Lib.hid (KR.out.below' d); replace BW := Lib.hid (chain0 BW.out d); replace ka := KA.out.c3; replace kb := KB.out.c3; replace T1 := Lib.hid (T1.out.keep d); clear d t2))
  go_wp2_with fail
  refine (M3.out _ BW.out).mono ?_
  rintro e w4 ⟨v3, rfl, t3, d⟩
  have T3 := Lib.hid t3
  obtain ⟨A9, c9, rfl, _⟩ := ns_cases t3
  replace KA := Lib.hid (KA.out.below' d)
  replace KB := Lib.hid (KB.out.below' d)
  replace KR := Lib.hid (KR.out.below' d)
  replace BW := Lib.hid (chain0 BW.out d)
  replace ka := KA.out.c3
  replace kb := KB.out.c3
  replace T1 := Lib.hid (T1.out.keep d)
  replace T2 := Lib.hid (T2.out.keep d)
  clear d t3
  go_wp2_with fail
  refine (rsub_no (digs x) (digs y) _ _ w4 (by have := HX.out.1; omega) (by have := HX.out.2.1; omega) (Dg.digs _) (Dg.digs _) T1.out T2.out (by rw [nat_digs, nat_digs]; exact HC.out)).mono ?_
  rintro e w4' ⟨rfl, rfl⟩
  go_wp2_with fail
  have CS := rsub_yes (digs y) (digs x) _ _ w4 (by have := HX.out.1; have := HX.out.2.1; omega) (by have := HX.out.1; have := HX.out.2.1; omega) (Dg.digs _) (Dg.digs _) T2.out T1.out (by rw [nat_digs, nat_digs]; have := HC.out; omega)
  rw [nat_digs, nat_digs, ← HN.out] at CS
  unfold NatPost2 at CS
  refine CS.mono ?_
  rintro e w5 ⟨v4, rfl, t4, d⟩
  have T4 := Lib.hid t4
  obtain ⟨Ab, cb, rfl, _⟩ := ns_cases t4
  replace KA := Lib.hid (KA.out.below' d)
  replace KB := Lib.hid (KB.out.below' d)
  replace KR := Lib.hid (KR.out.below' d)
  replace BW := Lib.hid (chain0 BW.out d)
  replace ka := KA.out.c3
  replace kb := KB.out.c3
  replace T3 := Lib.hid (T3.out.keep d)
  clear d t4
  go_wp2_with fail
  refine (CK.out _ _ _ (by rw [HN.out]; exact Nat.le_trans (digs_len_mono (Nat.sub_le _ _)) (by have := HX.out.1; have := HX.out.2.1; omega)) T4.out T3.out).mono ?_
  rintro e w6 ⟨A7, c7, A8, c8, rfl, t7, t8, d⟩
  replace KA := Lib.hid (KA.out.below' d)
  replace KB := Lib.hid (KB.out.below' d)
  replace KR := Lib.hid (KR.out.below' d)
  replace BW := Lib.hid (chain0 BW.out d)
  replace ka := KA.out.c3
  replace kb := KB.out.c3
  have S1 := Lib.hid t7
  have S2 := Lib.hid t8
  have kr := KR.out.c3
  have kl := KR.out.lt
  clear d t7 t8
  go_wp2_with fail
  obtain ⟨KE, FE, BE⟩ := frac_put (sg := sg) KR.out (by omega) S1.out S2.out BW.out
  exact bodyPost_ret (v := .agg #[.bool sg, .slice A7 (digs nn).length c7, .slice A8 (digs dn).length c8]) (results_blk rfl rfl (KE.alloc _) Tryz.underlying47 rfl (by kernel_rfl)) rfl ⟨_, rfl, FE.keep (below_new _ _), BE.alloc BE.size _⟩
end Fr
end Go.Proofs.YthehchdonmmpaaaGreatDoor
namespace Go.Proofs.YthehchdonmmpaaaGreatDoor
open Go.ChangeShapes Go.WideShapes Go.ChangeAt Go.RowKit
set_option linter.unusedVariables false
set_option linter.unusedSimpArgs false
namespace Fr
set_option maxHeartbeats 1000000 in
theorem fsub_of (s1 s2 : Bool) (A1 A2 A3 A4 : Option Addr) (c1 c2 c3 c4 n1 d1 n2 d2 : Nat) (w : World) (sg sn : Bool) (nn dn : Nat) (hsn : sn = (!s2 && decide (n2 ≠ 0)))
    (h3 : NS w (.slice A3 (digs n2).length c3) (digs n2)) (h4 : NS w (.slice A4 (digs d2).length c4) (digs d2))
    (CA : ∀ (A5 A6 : Option Addr) (c5 c6 : Nat) (w' : World), Below w.heap.size w w' → NS w' (.slice A5 (digs n2).length c5) (digs n2) → NS w' (.slice A6 (digs d2).length c6) (digs d2) → Calls Tryz.prog 72 #[.agg #[.bool s1, .slice A1 (digs n1).length c1, .slice A2 (digs d1).length c2], .agg #[.bool sn, .slice A5 (digs n2).length c5, .slice A6 (digs d2).length c6]] w' (FracPost sg nn dn w')) :
    Calls Tryz.prog 46 #[.agg #[.bool s1, .slice A1 (digs n1).length c1, .slice A2 (digs d1).length c2], .agg #[.bool s2, .slice A3 (digs n2).length c3, .slice A4 (digs d2).length c4]] w (FracPost sg nn dn w) := by
  have CN := Lib.hid (fun w' (b : Below w.heap.size w w') => rneg_any s2 A3 A4 c3 c4 n2 d2 w' (h3.keep b) (h4.keep b))
  rw [← hsn] at CN
  unfold FracPost FracIs at CN
  replace CA := Lib.hid CA
  unfold FracPost FracIs at CA
  have hP : Hid (Blk (((w.alloc (.cells #[.bool s1, .slice A1 (digs n1).length c1, .slice A2 (digs d1).length c2] 47)).alloc (.cells #[.bool s2, .slice A3 (digs n2).length c3, .slice A4 (digs d2).length c4] 47)).alloc (.cells #[.bool false, .slice none 0 0, .slice none 0 0] 47)) w.heap.size 47 #[.bool s1, .slice A1 (digs n1).length c1, .slice A2 (digs d1).length c2] ∧ Blk (((w.alloc (.cells #[.bool s1, .slice A1 (digs n1).length c1, .slice A2 (digs d1).length c2] 47)).alloc (.cells #[.bool s2, .slice A3 (digs n2).length c3, .slice A4 (digs d2).length c4] 47)).alloc (.cells #[.bool false, .slice none 0 0, .slice none 0 0] 47)) (w.heap.size + 1) 47 #[.bool s2, .slice A3 (digs n2).length c3, .slice A4 (digs d2).length c4] ∧ Blk (((w.alloc (.cells #[.bool s1, .slice A1 (digs n1).length c1, .slice A2 (digs d1).length c2] 47)).alloc (.cells #[.bool s2, .slice A3 (digs n2).length c3, .slice A4 (digs d2).length c4] 47)).alloc (.cells #[.bool false, .slice none 0 0, .slice none 0 0] 47)) (w.heap.size + 2) 47 #[.bool false, .slice none 0 0, .slice none 0 0] ∧ Below w.heap.size w (((w.alloc (.cells #[.bool s1, .slice A1 (digs n1).length c1, .slice A2 (digs d1).length c2] 47)).alloc (.cells #[.bool s2, .slice A3 (digs n2).length c3, .slice A4 (digs d2).length c4] 47)).alloc (.cells #[.bool false, .slice none 0 0, .slice none 0 0] 47))) := So.three_new w _ _ _ _ _ _
  clear h3 h4 hsn
  go_enter Tryz.func46, Tryz.ntmps46
  go_upto_region 1 with fail
  generalize (((w.alloc (.cells #[.bool s1, .slice A1 (digs n1).length c1, .slice A2 (digs d1).length c2] 47)).alloc (.cells #[.bool s2, .slice A3 (digs n2).length c3, .slice A4 (digs d2).length c4] 47)).alloc (.cells #[.bool false, .slice none 0 0, .slice none 0 0] 47)) = w1 at *
  have KA := Lib.hid hP.out.1.drew
  have KB := Lib.hid hP.out.2.1.drew
  have KR := Lib.hid hP.out.2.2.1.drew
  have BW := Lib.hid hP.out.2.2.2.drew
  clear hP
  have ka := KA.out.c3
  have kb := KB.out.c3
  go_region_held3 (fun w' => w'.cell? ⟨w.heap.size, 0, none⟩ = some (.bool s1) ∧ w'.cell? ⟨w.heap.size, 1, none⟩ = some (.slice A1 (digs n1).length c1) ∧ w'.cell? ⟨w.heap.size, 2, none⟩ = some (.slice A2 (digs d1).length c2) ∧ w'.cell? ⟨w.heap.size + 1, 0, none⟩ = some (.bool s2) ∧ w'.cell? ⟨w.heap.size + 1, 1, none⟩ = some (.slice A3 (digs n2).length c3) ∧ w'.cell? ⟨w.heap.size + 1, 2, none⟩ = some (.slice A4 (digs d2).length c4)) (first | exact ⟨ka.1.1, ka.2.1.1, ka.2.2.1, kb.1.1, kb.2.1.1, kb.2.2.1⟩ | exact (let q := far3 KA.out (by omega) _ _ _; let r := far3 KB.out (by omega) _ _ _; ⟨q.c3.1.1, q.c3.2.1.1, q.c3.2.2.1, r.c3.1.1, r.c3.2.1.1, r.c3.2.2.1⟩) | go_keep) (first
    | (go_at_call 73; with_reducible refine (CN.out _ BW.out).mono ?_; rintro e w4 ⟨v, rfl, ⟨A5, c5, A6, c6, rfl, t1, t2⟩, d⟩; have T1 := Lib.hid t1; have T2 := Lib.hid t2; replace KA := Lib.hid (KA.out.below' d); replace KB := Lib.hid (KB.out.below' d); replace KR := Lib.hid (KR.out.below' d); replace BW := Lib.hid (chain0 BW.out d); replace ka := KA.out.c3; replace kb := KB.out.c3; clear d t1 t2)
    | (go_at_call 72; with_reducible refine (CA.out _ _ _ _ _ BW.out T1.out T2.out).mono ?_; rintro e w5 ⟨v, rfl, ⟨A7, c7, A8, c8, rfl, t7, t8⟩, d⟩; have S1 := Lib.hid t7; have S2 := Lib.hid t8; replace KA := Lib.hid (KA.out.below' d); replace KB := Lib.hid (KB.out.below' d); replace KR := Lib.hid (KR.out.below' d); replace BW := Lib.hid (chain0 BW.out d); replace ka := KA.out.c3; replace kb := KB.out.c3; have kr := KR.out.c3; have kl := KR.out.lt; clear d t7 t8))
  go_wp2_with fail
  obtain ⟨KE, FE, BE⟩ := frac_put (sg := sg) KR.out (by omega) S1.out S2.out BW.out
  exact bodyPost_ret (v := .agg #[.bool sg, .slice A7 (digs nn).length c7, .slice A8 (digs dn).length c8]) (results_blk rfl rfl KE Tryz.underlying47 rfl (by kernel_rfl)) rfl ⟨_, rfl, FE, BE⟩
theorem fcmp_of (s1 s2 : Bool) (A1 A2 A3 A4 : Option Addr) (c1 c2 c3 c4 n1 d1 n2 d2 : Nat) (w : World) (sg : Bool) (nn dn : Nat)
    (CS : ∀ (w' : World), Below w.heap.size w w' → Calls Tryz.prog 46 #[.agg #[.bool s1, .slice A1 (digs n1).length c1, .slice A2 (digs d1).length c2], .agg #[.bool s2, .slice A3 (digs n2).length c3, .slice A4 (digs d2).length c4]] w' (FracPost sg nn dn w')) :
    Calls Tryz.prog 21 #[.agg #[.bool s1, .slice A1 (digs n1).length c1, .slice A2 (digs d1).length c2], .agg #[.bool s2, .slice A3 (digs n2).length c3, .slice A4 (digs d2).length c4]] w fun e w' => e = .returned (.int .i64 (signI sg (digs nn).length)) ∧ Below w.heap.size w w' := by
  replace CS := Lib.hid CS
  unfold FracPost FracIs at CS
  have hP : Hid (Blk ((w.alloc (.cells #[.bool s1, .slice A1 (digs n1).length c1, .slice A2 (digs d1).length c2] 47)).alloc (.cells #[.bool s2, .slice A3 (digs n2).length c3, .slice A4 (digs d2).length c4] 47)) w.heap.size 47 #[.bool s1, .slice A1 (digs n1).length c1, .slice A2 (digs d1).length c2] ∧ Blk ((w.alloc (.cells #[.bool s1, .slice A1 (digs n1).length c1, .slice A2 (digs d1).length c2] 47)).alloc (.cells #[.bool s2, .slice A3 (digs n2).length c3, .slice A4 (digs d2).length c4] 47)) (w.heap.size + 1) 47 #[.bool s2, .slice A3 (digs n2).length c3, .slice A4 (digs d2).length c4] ∧ Below w.heap.size w ((w.alloc (.cells #[.bool s1, .slice A1 (digs n1).length c1, .slice A2 (digs d1).length c2] 47)).alloc (.cells #[.bool s2, .slice A3 (digs n2).length c3, .slice A4 (digs d2).length c4] 47))) := two_new w _ _ _ _
  go_enter Tryz.func21, Tryz.ntmps21
  go_upto_region 1 with fail
  generalize ((w.alloc (.cells #[.bool s1, .slice A1 (digs n1).length c1, .slice A2 (digs d1).length c2] 47)).alloc (.cells #[.bool s2, .slice A3 (digs n2).length c3, .slice A4 (digs d2).length c4] 47)) = w1 at *
  have ka := hP.out.1.c3
  have kb := hP.out.2.1.c3
  go_wp2_with fail
  refine (CS.out _ hP.out.2.2).mono ?_
  rintro e w2 ⟨v, rfl, ⟨A5, c5, A6, c6, rfl, t1, t2⟩, d⟩
  have B2 := Lib.hid (chain0 hP.out.2.2 d)
  clear ka kb t1 t2 d
  go_wp2_with fail
  refine (rsign_any sg A5 c5 (digs nn).length _ w2).mono ?_
  rintro e w3 ⟨rfl, d⟩
  have B3 := Lib.hid (chain0 B2.out d)
  clear d
  go_wp2_with fail
  go_ret
  exact ⟨rfl, B3.out⟩
end Fr
end Go.Proofs.YthehchdonmmpaaaGreatDoor
