/- Contract of exprtext's priced. Printed by gen_exF.py. -/
import Derived.Test.YtjjlhihocllgjaaGreatDoorExE
namespace Go.Proofs.YtjjlhihocllgjaaGreatDoor.Ex
open Go.ChangeShapes Go.WideShapes Go.ChangeAt Go.RowKit Gn Cat Lex
set_option linter.unusedVariables false
set_option linter.unusedSimpArgs false
theorem ps_only {w w' : World} {A : Option Addr} {c g : Nat} {l : List Prod} (h : PS w (.slice A l.length c) l) (hA : ∀ b o, A = some ⟨b, o, none⟩ → b ≠ g) (k : Only g w w') : PS w' (.slice A l.length c) l := by
  obtain ⟨h0, A', c', h1, h2, h3, h4⟩ := h
  injection h1 with e1 _ e2
  subst e1 e2
  refine ⟨h0, A, c, rfl, h2, h3, fun hn => ?_⟩
  obtain ⟨b, o, e1, hb, hr⟩ := h4 hn
  exact ⟨b, o, e1, Nat.lt_of_lt_of_le hb k.size, fun j u hu => (only_cell k (a := ⟨b, o + j, none⟩) hb (hA b o e1)).trans (hr j u hu)⟩
theorem loopF_len (l : List Prod) : ∀ (f : Nat) (s : St), (loopF l f s).L.length ≤ s.L.length
  | 0, _ => Nat.le_refl _
  | f + 1, s => by
    unfold loopF
    split
    · refine Nat.le_trans (loopF_len l f _) (Nat.le_trans (elemF_len l _) ?_)
      exact nextL_len s.L s.e
    · exact Nat.le_refl _
theorem scanF_len (l : List Prod) (L : List Tok) (e : Int) : (scanF l L e).L.length ≤ L.length := by
  unfold scanF
  split
  · exact Nat.le_refl _
  · split
    · exact Nat.le_refl _
    · split
      · exact Nat.le_trans (nextL_len _ _) (expL_len _ _ _)
      · exact Nat.le_trans (expL_len _ _ _) (Nat.le_trans (loopF_len l _ _) (Nat.le_trans (elemF_len l _) (expL_len _ _ _)))
/-- what priced reads -/
structure PrR where
  b : Nat → Int
  v : Int
  L : List Tok
  e : Int
def openE (L : List Tok) (e : Int) : Int := if (peekT L e).kind = 0 then failE e 1 else if accB L e ⟨#[123]⟩ then e else failE e 2
noncomputable def pricedS (s : St) : PrR := ⟨s.b, amtV (expL s.L s.e ⟨#[64]⟩) (expE s.L s.e ⟨#[64]⟩) 1000000, amtL (expL s.L s.e ⟨#[64]⟩) (expE s.L s.e ⟨#[64]⟩) 1000000, amtE (expL s.L s.e ⟨#[64]⟩) (expE s.L s.e ⟨#[64]⟩) 1000000⟩
noncomputable def pricedF (l : List Prod) (L : List Tok) (e : Int) : PrR := pricedS (scanF l L (openE L e))
theorem pricedF_len (l : List Prod) (L : List Tok) (e : Int) : (pricedF l L e).L.length ≤ L.length :=
  Nat.le_trans (amtL_len _ _ _) (Nat.le_trans (expL_len _ _ _) (scanF_len l L _))
abbrev PricedPost (q : PrR) (g : Nat) (w : World) : Ending → World → Prop := fun r w' => r = .returned (.tuple #[.agg (arr q.b), .int .i64 q.v]) ∧ Scan 113 109 w' g q.L q.e ∧ Only g w w'
/-- the scanner, the parser's own block, the result's block -/
structure PMid (tp tb ts te : TypeId) (w wx : World) (g : Nat) (pv : Array Value) (L : List Tok) (e : Int) : Prop where
  scan : Scan ts te wx g L e
  par : Blk wx w.heap.size tp pv
  res : Blk wx (w.heap.size + 1) tb (arr zero6)
  only : Only g w wx
section
variable {tp tb ts te : TypeId} {w wx wy : World} {g : Nat} {pv : Array Value} {L L' : List Tok} {e e' : Int}
theorem pmid_new (h : Scan ts te w g L e) (tp tb : TypeId) (pv : Array Value) : PMid tp tb ts te w ((w.alloc (.cells pv tp)).alloc (.cells (arr zero6) tb)) g pv L e :=
  ⟨(h.below (below_new w _)).below (below_new _ _), (Blk.new w tp pv).alloc _, (show (w.alloc (.cells pv tp)).heap.size = w.heap.size + 1 by go_size) ▸ Blk.new (w.alloc (.cells pv tp)) tb (arr zero6), ((Only.refl g w).alloc _).alloc _⟩
theorem PMid.step (h : PMid tp tb ts te w wx g pv L e) (hg : g < w.heap.size) (k : Scan ts te wy g L' e') (o : Only g wx wy) : PMid tp tb ts te w wy g pv L' e' :=
  ⟨k, h.par.only o (by omega), h.res.only o (by omega), h.only.trans o⟩
theorem PMid.below (h : PMid tp tb ts te w wx g pv L e) (o : Below wx.heap.size wx wy) : PMid tp tb ts te w wy g pv L e :=
  ⟨h.scan.below o, h.par.below o h.par.lt, h.res.below o h.res.lt, h.only.then_below o⟩
theorem PMid.done (h : PMid tp tb ts te w wx g pv L e) (h1 : tb ≠ ts) (h2 : tb ≠ te) (q : Nat → Int) : Scan ts te (put6 wx (w.heap.size + 1) q) g L e ∧ Only g w (put6 wx (w.heap.size + 1) q) :=
  ⟨h.scan.six h.res h1 h2 q, h.only.six (Nat.le_succ _) q⟩
end
set_option maxHeartbeats 4000000 in
set_option maxRecDepth 100000 in
theorem priced_any (l : List Prod) (A : Option Addr) (c : Nat) (L : List Tok) (e : Int) (g : Nat) (w : World) (hl : l.length ≤ 5000) (hp : PS w (.slice A l.length c) l) (hA : ∀ b o, A = some ⟨b, o, none⟩ → b ≠ g) (hn : ∀ p ∈ l, p.name.size ≤ maxLen) (hs : Scan 113 109 w g L e) (hm : L.length ≤ 5000) :
    Calls Tryz.prog 74 #[.agg #[.slice A l.length c, .pointer (some ⟨g, 0, none⟩)]] w (PricedPost (pricedF l L e) g w) := by
  have hg := hs.lt
  have CP := Lib.hid fun W (h : Scan 113 109 W g L e) => peek_any L e g W h (small_len hm)
  have CF := Lib.hid fun x W (h : Scan 113 109 W g L e) => fail_any L e x g W h
  have CS := Lib.hid fun ee => fun W (k : Only g w W) h => scan_any l A c L ee g W hl (ps_only hp hA k) hA hn h hm
  have HSL := Lib.hid (fun ee => Nat.le_trans (scanF_len l L ee) hm)
  have CX := Lib.hid fun ee => fun W (h : Scan 113 109 W g (scanF l L ee).L (scanF l L ee).e) => expect_any (scanF l L ee).L (scanF l L ee).e g ⟨#[64]⟩ W h (small_len (HSL.out ee))
  have CA := Lib.hid fun ee => fun W h => amount_any (expL (scanF l L ee).L (scanF l L ee).e ⟨#[64]⟩) (expE (scanF l L ee).L (scanF l L ee).e ⟨#[64]⟩) 1000000 g W h (small_len (Nat.le_trans (expL_len _ _ _) (HSL.out ee)))
  have E0 := Lib.hid (pmid_new hs 64 25 #[.slice A l.length c, .pointer (some ⟨g, 0, none⟩)])
  have HR : Hid (pricedF l L e = pricedS (scanF l L (openE L e))) := rfl
  have HO : Hid (((peekT L e).kind = 0 → openE L e = failE e 1) ∧ ((peekT L e).kind ≠ 0 → (peekT L e).kind = 3 → (peekT L e).text = ⟨#[123]⟩ → openE L e = e) ∧ ((peekT L e).kind ≠ 0 → ¬ ((peekT L e).kind = 3 ∧ (peekT L e).text = ⟨#[123]⟩) → openE L e = failE e 2)) := by
    refine ⟨fun h => ?_, fun h h1 h2 => ?_, fun h h1 => ?_⟩
    · unfold openE; rw [if_pos h]
    · unfold openE; rw [if_neg h]; exact if_pos ⟨h1, h2⟩
    · unfold openE; rw [if_neg h]; exact if_neg h1
  generalize pricedF l L e = R at *
  generalize openE L e = ee at *
  have CS := Lib.hid (CS.out ee)
  have CX := Lib.hid (CX.out ee)
  have CA := Lib.hid (CA.out ee)
  have hls : (scanF l L ee).L.length ≤ 5000 := HSL.out ee
  clear HSL hp hA hn hs
  generalize scanF l L ee = s at *
  have HR2 : Hid (R = ⟨s.b, amtV (expL s.L s.e ⟨#[64]⟩) (expE s.L s.e ⟨#[64]⟩) 1000000, amtL (expL s.L s.e ⟨#[64]⟩) (expE s.L s.e ⟨#[64]⟩) 1000000, amtE (expL s.L s.e ⟨#[64]⟩) (expE s.L s.e ⟨#[64]⟩) 1000000⟩) := HR.out
  clear HR
  obtain ⟨sL, se, sb⟩ := s
  dsimp only at HR2 CS CX CA hls
  generalize expL sL se ⟨#[64]⟩ = L5 at *
  generalize expE sL se ⟨#[64]⟩ = e5 at *
  generalize amtV L5 e5 1000000 = v7 at *
  generalize amtL L5 e5 1000000 = L7 at *
  generalize amtE L5 e5 1000000 = e7 at *
  have HR3 := Lib.hid HR2.out
  clear HR2
  generalize peekT L e = t at *
  obtain ⟨tk, tt, tv, tp⟩ := t
  dsimp only at CP HO
  by_cases hk : tk = 0
  · have HE : Hid (ee = failE e 1) := HO.out.1 hk
    subst hk
    clear HO
    go_enter Tryz.func74, Tryz.ntmps74
    go_wp2_with fail
    refine (CP.out _ E0.out.scan).mono ?_
    rintro r w2 ⟨rfl, b2⟩
    have E1 := Lib.hid (E0.out.below b2)
    have E2 := Lib.hid (E1.out.below (below_new w2 (.cells #[.int .i64 0, .string tt, .int .i64 tv, .int .i64 tp] 109)))
    have KT := Lib.hid (Blk.new w2 109 #[.int .i64 0, .string tt, .int .i64 tv, .int .i64 tp])
    clear b2
    have d2 := E2.out.par.c2
    have d4 := KT.out.c4
    go_wp2_with fail
    
    refine (CF.out 1 _ E2.out.scan).mono ?_
    rintro r w3 ⟨rfl, s3, o3⟩
    rw [← HE.out] at s3
    have EX := Lib.hid (E2.out.step hg s3 o3)
    clear s3 o3 d2 d4
    
    have d2 := EX.out.par.c2
    go_wp2_with fail
    refine (CS.out _ EX.out.only EX.out.scan).mono ?_
    rintro r w4 ⟨rfl, s4, o4⟩
    have E4 := Lib.hid (EX.out.step hg s4 o4)
    have E5 := Lib.hid (E4.out.below (below_new w4 (.cells (arr sb) 25)))
    have K5 := Lib.hid (Blk.new w4 25 (arr sb))
    clear s4 o4 d2
    have d2 := E5.out.par.c2
    go_wp2_with fail
    refine (CX.out _ E5.out.scan).mono ?_
    rintro r w6 ⟨rfl, s6, o6⟩
    have E6 := Lib.hid (E5.out.step hg s6 o6)
    have K6 := Lib.hid (K5.out.only o6 (by have := E4.out.only.size; omega))
    have hy : Hid (w.heap.size + 1 < w4.heap.size) := E4.out.res.lt
    clear s6 o6 d2
    generalize w4.heap.size = y at *
    have d2 := E6.out.par.c2
    obtain ⟨Q0, Q1, Q2, Q3, Q4, Q5⟩ := K6.out.box.cells
    go_wp2_with fail
    have HK := Lib.hid (fun W (o : Only g w6 W) => (show W.cell? ⟨w.heap.size, 1, none⟩ = some (.pointer (some ⟨g, 0, none⟩)) ∧ W.cell? ⟨y, 0, none⟩ = some (.int .i64 (sb 0)) ∧ W.cell? ⟨y, 1, none⟩ = some (.int .i64 (sb 1)) ∧ W.cell? ⟨y, 2, none⟩ = some (.int .i64 (sb 2)) ∧ W.cell? ⟨y, 3, none⟩ = some (.int .i64 (sb 3)) ∧ W.cell? ⟨y, 4, none⟩ = some (.int .i64 (sb 4)) ∧ W.cell? ⟨y, 5, none⟩ = some (.int .i64 (sb 5)) from ⟨(E6.out.par.only o (by omega)).c2.2.1, (K6.out.only o (by have := hy.out; omega)).box.cells⟩))
    have HA6 := HK.out w6 (Only.refl _ _)
    have ly := K6.out.lt
    have lp := E6.out.par.lt
    have ED := Lib.hid (E6.out.below (Below.refl _ _).drew)
    have ZD := ED.out.res.box.free
    have O6 := Lib.hid ((Only.refl g w6).drew)
    go_region_held3 (fun W => W.cell? ⟨w.heap.size, 1, none⟩ = some (.pointer (some ⟨g, 0, none⟩)) ∧ W.cell? ⟨y, 0, none⟩ = some (.int .i64 (sb 0)) ∧ W.cell? ⟨y, 1, none⟩ = some (.int .i64 (sb 1)) ∧ W.cell? ⟨y, 2, none⟩ = some (.int .i64 (sb 2)) ∧ W.cell? ⟨y, 3, none⟩ = some (.int .i64 (sb 3)) ∧ W.cell? ⟨y, 4, none⟩ = some (.int .i64 (sb 4)) ∧ W.cell? ⟨y, 5, none⟩ = some (.int .i64 (sb 5))) (first | with_reducible exact HA7 | with_reducible exact HK.out _ O6.out | with_reducible exact HQ7) (first | (go_at_call 79; refine (CA.out _ ED.out.scan).mono ?_; rintro r w7 ⟨rfl, s7, o7⟩; have E7 := Lib.hid (ED.out.step hg s7 o7); have HA7 := HK.out _ (O6.out.trans o7); have Z7 := E7.out.res.box.free; have lr7 := E7.out.res.lt; obtain ⟨C0, C1, C2, C3, C4, C5⟩ := E7.out.res.box.cells; have HQ7 := And.intro (E7.out.par.put6_ (x := w.heap.size + 1) (by omega) sb).c2.2.1 (((K6.out.only (O6.out.trans o7) (by have := hy.out; omega)).put6_ (x := w.heap.size + 1) (by have := hy.out; omega) sb).box.cells); clear s7 o7))
    have RE := res_end E7.out.res.box sb
    obtain ⟨X0, X1, X2, X3, X4, X5⟩ := RE.cells
    go_wp2_with fail
    refine bodyPost_ret (v := .tuple #[.agg (arr sb), .int .i64 v7]) (by simp [results, Tryz.results74, go_sem, arr, X0, X1, X2, X3, X4, X5]) rfl ?_
    rw [HR3.out]
    have F7 := E7.out.done (by decide) (by decide) sb
    with_reducible exact ⟨rfl, F7⟩
  · have hk0 : (tk == 0) = false := by simpa using hk
    by_cases hk3 : tk = 3
    · subst hk3
      by_cases ht : tt = ⟨#[123]⟩
      · have HE : Hid (ee = e) := HO.out.2.1 hk rfl ht
        subst ht
        clear HO hk hk0
        go_enter Tryz.func74, Tryz.ntmps74
        go_wp2_with fail
        refine (CP.out _ E0.out.scan).mono ?_
        rintro r w2 ⟨rfl, b2⟩
        have E1 := Lib.hid (E0.out.below b2)
        have E2 := Lib.hid (E1.out.below (below_new w2 (.cells #[.int .i64 3, .string ⟨#[123]⟩, .int .i64 tv, .int .i64 tp] 109)))
        have KT := Lib.hid (Blk.new w2 109 #[.int .i64 3, .string ⟨#[123]⟩, .int .i64 tv, .int .i64 tp])
        clear b2
        have d2 := E2.out.par.c2
        have d4 := KT.out.c4
        go_wp2_with fail
        
        have EX := Lib.hid E2.out
        rw [← HE.out] at EX
        clear d2 d4
        generalize w2.alloc _ = w3 at *
        
        have d2 := EX.out.par.c2
        go_wp2_with fail
        refine (CS.out _ EX.out.only EX.out.scan).mono ?_
        rintro r w4 ⟨rfl, s4, o4⟩
        have E4 := Lib.hid (EX.out.step hg s4 o4)
        have E5 := Lib.hid (E4.out.below (below_new w4 (.cells (arr sb) 25)))
        have K5 := Lib.hid (Blk.new w4 25 (arr sb))
        clear s4 o4 d2
        have d2 := E5.out.par.c2
        go_wp2_with fail
        refine (CX.out _ E5.out.scan).mono ?_
        rintro r w6 ⟨rfl, s6, o6⟩
        have E6 := Lib.hid (E5.out.step hg s6 o6)
        have K6 := Lib.hid (K5.out.only o6 (by have := E4.out.only.size; omega))
        have hy : Hid (w.heap.size + 1 < w4.heap.size) := E4.out.res.lt
        clear s6 o6 d2
        generalize w4.heap.size = y at *
        have d2 := E6.out.par.c2
        obtain ⟨Q0, Q1, Q2, Q3, Q4, Q5⟩ := K6.out.box.cells
        go_wp2_with fail
        have HK := Lib.hid (fun W (o : Only g w6 W) => (show W.cell? ⟨w.heap.size, 1, none⟩ = some (.pointer (some ⟨g, 0, none⟩)) ∧ W.cell? ⟨y, 0, none⟩ = some (.int .i64 (sb 0)) ∧ W.cell? ⟨y, 1, none⟩ = some (.int .i64 (sb 1)) ∧ W.cell? ⟨y, 2, none⟩ = some (.int .i64 (sb 2)) ∧ W.cell? ⟨y, 3, none⟩ = some (.int .i64 (sb 3)) ∧ W.cell? ⟨y, 4, none⟩ = some (.int .i64 (sb 4)) ∧ W.cell? ⟨y, 5, none⟩ = some (.int .i64 (sb 5)) from ⟨(E6.out.par.only o (by omega)).c2.2.1, (K6.out.only o (by have := hy.out; omega)).box.cells⟩))
        have HA6 := HK.out w6 (Only.refl _ _)
        have ly := K6.out.lt
        have lp := E6.out.par.lt
        have ED := Lib.hid (E6.out.below (Below.refl _ _).drew)
        have ZD := ED.out.res.box.free
        have O6 := Lib.hid ((Only.refl g w6).drew)
        go_region_held3 (fun W => W.cell? ⟨w.heap.size, 1, none⟩ = some (.pointer (some ⟨g, 0, none⟩)) ∧ W.cell? ⟨y, 0, none⟩ = some (.int .i64 (sb 0)) ∧ W.cell? ⟨y, 1, none⟩ = some (.int .i64 (sb 1)) ∧ W.cell? ⟨y, 2, none⟩ = some (.int .i64 (sb 2)) ∧ W.cell? ⟨y, 3, none⟩ = some (.int .i64 (sb 3)) ∧ W.cell? ⟨y, 4, none⟩ = some (.int .i64 (sb 4)) ∧ W.cell? ⟨y, 5, none⟩ = some (.int .i64 (sb 5))) (first | with_reducible exact HA7 | with_reducible exact HK.out _ O6.out | with_reducible exact HQ7) (first | (go_at_call 79; refine (CA.out _ ED.out.scan).mono ?_; rintro r w7 ⟨rfl, s7, o7⟩; have E7 := Lib.hid (ED.out.step hg s7 o7); have HA7 := HK.out _ (O6.out.trans o7); have Z7 := E7.out.res.box.free; have lr7 := E7.out.res.lt; obtain ⟨C0, C1, C2, C3, C4, C5⟩ := E7.out.res.box.cells; have HQ7 := And.intro (E7.out.par.put6_ (x := w.heap.size + 1) (by omega) sb).c2.2.1 (((K6.out.only (O6.out.trans o7) (by have := hy.out; omega)).put6_ (x := w.heap.size + 1) (by have := hy.out; omega) sb).box.cells); clear s7 o7))
        have RE := res_end E7.out.res.box sb
        obtain ⟨X0, X1, X2, X3, X4, X5⟩ := RE.cells
        go_wp2_with fail
        refine bodyPost_ret (v := .tuple #[.agg (arr sb), .int .i64 v7]) (by simp [results, Tryz.results74, go_sem, arr, X0, X1, X2, X3, X4, X5]) rfl ?_
        rw [HR3.out]
        have F7 := E7.out.done (by decide) (by decide) sb
        with_reducible exact ⟨rfl, F7⟩
      · have HE : Hid (ee = failE e 2) := HO.out.2.2 hk (fun h => ht h.2)
        have hne := toList_of_ne ht
        have hne2 : (tt.toList != (⟨#[123]⟩ : ByteArray).toList) = true := by unfold bne; rw [hne]; rfl
        rw [show (⟨#[123]⟩ : ByteArray).toList = [123] by decide +kernel] at hne hne2
        clear HO ht hk hk0
        go_enter Tryz.func74, Tryz.ntmps74
        go_wp2_with fail
        refine (CP.out _ E0.out.scan).mono ?_
        rintro r w2 ⟨rfl, b2⟩
        have E1 := Lib.hid (E0.out.below b2)
        have E2 := Lib.hid (E1.out.below (below_new w2 (.cells #[.int .i64 3, .string tt, .int .i64 tv, .int .i64 tp] 109)))
        have KT := Lib.hid (Blk.new w2 109 #[.int .i64 3, .string tt, .int .i64 tv, .int .i64 tp])
        clear b2
        have d2 := E2.out.par.c2
        have d4 := KT.out.c4
        go_wp2_with fail
        
        refine (CF.out 2 _ E2.out.scan).mono ?_
        rintro r w3 ⟨rfl, s3, o3⟩
        rw [← HE.out] at s3
        have EX := Lib.hid (E2.out.step hg s3 o3)
        clear s3 o3 d2 d4
        
        have d2 := EX.out.par.c2
        go_wp2_with fail
        refine (CS.out _ EX.out.only EX.out.scan).mono ?_
        rintro r w4 ⟨rfl, s4, o4⟩
        have E4 := Lib.hid (EX.out.step hg s4 o4)
        have E5 := Lib.hid (E4.out.below (below_new w4 (.cells (arr sb) 25)))
        have K5 := Lib.hid (Blk.new w4 25 (arr sb))
        clear s4 o4 d2
        have d2 := E5.out.par.c2
        go_wp2_with fail
        refine (CX.out _ E5.out.scan).mono ?_
        rintro r w6 ⟨rfl, s6, o6⟩
        have E6 := Lib.hid (E5.out.step hg s6 o6)
        have K6 := Lib.hid (K5.out.only o6 (by have := E4.out.only.size; omega))
        have hy : Hid (w.heap.size + 1 < w4.heap.size) := E4.out.res.lt
        clear s6 o6 d2
        generalize w4.heap.size = y at *
        have d2 := E6.out.par.c2
        obtain ⟨Q0, Q1, Q2, Q3, Q4, Q5⟩ := K6.out.box.cells
        go_wp2_with fail
        have HK := Lib.hid (fun W (o : Only g w6 W) => (show W.cell? ⟨w.heap.size, 1, none⟩ = some (.pointer (some ⟨g, 0, none⟩)) ∧ W.cell? ⟨y, 0, none⟩ = some (.int .i64 (sb 0)) ∧ W.cell? ⟨y, 1, none⟩ = some (.int .i64 (sb 1)) ∧ W.cell? ⟨y, 2, none⟩ = some (.int .i64 (sb 2)) ∧ W.cell? ⟨y, 3, none⟩ = some (.int .i64 (sb 3)) ∧ W.cell? ⟨y, 4, none⟩ = some (.int .i64 (sb 4)) ∧ W.cell? ⟨y, 5, none⟩ = some (.int .i64 (sb 5)) from ⟨(E6.out.par.only o (by omega)).c2.2.1, (K6.out.only o (by have := hy.out; omega)).box.cells⟩))
        have HA6 := HK.out w6 (Only.refl _ _)
        have ly := K6.out.lt
        have lp := E6.out.par.lt
        have ED := Lib.hid (E6.out.below (Below.refl _ _).drew)
        have ZD := ED.out.res.box.free
        have O6 := Lib.hid ((Only.refl g w6).drew)
        go_region_held3 (fun W => W.cell? ⟨w.heap.size, 1, none⟩ = some (.pointer (some ⟨g, 0, none⟩)) ∧ W.cell? ⟨y, 0, none⟩ = some (.int .i64 (sb 0)) ∧ W.cell? ⟨y, 1, none⟩ = some (.int .i64 (sb 1)) ∧ W.cell? ⟨y, 2, none⟩ = some (.int .i64 (sb 2)) ∧ W.cell? ⟨y, 3, none⟩ = some (.int .i64 (sb 3)) ∧ W.cell? ⟨y, 4, none⟩ = some (.int .i64 (sb 4)) ∧ W.cell? ⟨y, 5, none⟩ = some (.int .i64 (sb 5))) (first | with_reducible exact HA7 | with_reducible exact HK.out _ O6.out | with_reducible exact HQ7) (first | (go_at_call 79; refine (CA.out _ ED.out.scan).mono ?_; rintro r w7 ⟨rfl, s7, o7⟩; have E7 := Lib.hid (ED.out.step hg s7 o7); have HA7 := HK.out _ (O6.out.trans o7); have Z7 := E7.out.res.box.free; have lr7 := E7.out.res.lt; obtain ⟨C0, C1, C2, C3, C4, C5⟩ := E7.out.res.box.cells; have HQ7 := And.intro (E7.out.par.put6_ (x := w.heap.size + 1) (by omega) sb).c2.2.1 (((K6.out.only (O6.out.trans o7) (by have := hy.out; omega)).put6_ (x := w.heap.size + 1) (by have := hy.out; omega) sb).box.cells); clear s7 o7))
        have RE := res_end E7.out.res.box sb
        obtain ⟨X0, X1, X2, X3, X4, X5⟩ := RE.cells
        go_wp2_with fail
        refine bodyPost_ret (v := .tuple #[.agg (arr sb), .int .i64 v7]) (by simp [results, Tryz.results74, go_sem, arr, X0, X1, X2, X3, X4, X5]) rfl ?_
        rw [HR3.out]
        have F7 := E7.out.done (by decide) (by decide) sb
        with_reducible exact ⟨rfl, F7⟩
    · have HE : Hid (ee = failE e 2) := HO.out.2.2 hk (fun h => hk3 h.1)
      have hk4 : (tk != 3) = true := by simpa using hk3
      clear HO hk hk3
      go_enter Tryz.func74, Tryz.ntmps74
      go_wp2_with fail
      refine (CP.out _ E0.out.scan).mono ?_
      rintro r w2 ⟨rfl, b2⟩
      have E1 := Lib.hid (E0.out.below b2)
      have E2 := Lib.hid (E1.out.below (below_new w2 (.cells #[.int .i64 tk, .string tt, .int .i64 tv, .int .i64 tp] 109)))
      have KT := Lib.hid (Blk.new w2 109 #[.int .i64 tk, .string tt, .int .i64 tv, .int .i64 tp])
      clear b2
      have d2 := E2.out.par.c2
      have d4 := KT.out.c4
      go_wp2_with fail
      
      refine (CF.out 2 _ E2.out.scan).mono ?_
      rintro r w3 ⟨rfl, s3, o3⟩
      rw [← HE.out] at s3
      have EX := Lib.hid (E2.out.step hg s3 o3)
      clear s3 o3 d2 d4
      
      have d2 := EX.out.par.c2
      go_wp2_with fail
      refine (CS.out _ EX.out.only EX.out.scan).mono ?_
      rintro r w4 ⟨rfl, s4, o4⟩
      have E4 := Lib.hid (EX.out.step hg s4 o4)
      have E5 := Lib.hid (E4.out.below (below_new w4 (.cells (arr sb) 25)))
      have K5 := Lib.hid (Blk.new w4 25 (arr sb))
      clear s4 o4 d2
      have d2 := E5.out.par.c2
      go_wp2_with fail
      refine (CX.out _ E5.out.scan).mono ?_
      rintro r w6 ⟨rfl, s6, o6⟩
      have E6 := Lib.hid (E5.out.step hg s6 o6)
      have K6 := Lib.hid (K5.out.only o6 (by have := E4.out.only.size; omega))
      have hy : Hid (w.heap.size + 1 < w4.heap.size) := E4.out.res.lt
      clear s6 o6 d2
      generalize w4.heap.size = y at *
      have d2 := E6.out.par.c2
      obtain ⟨Q0, Q1, Q2, Q3, Q4, Q5⟩ := K6.out.box.cells
      go_wp2_with fail
      have HK := Lib.hid (fun W (o : Only g w6 W) => (show W.cell? ⟨w.heap.size, 1, none⟩ = some (.pointer (some ⟨g, 0, none⟩)) ∧ W.cell? ⟨y, 0, none⟩ = some (.int .i64 (sb 0)) ∧ W.cell? ⟨y, 1, none⟩ = some (.int .i64 (sb 1)) ∧ W.cell? ⟨y, 2, none⟩ = some (.int .i64 (sb 2)) ∧ W.cell? ⟨y, 3, none⟩ = some (.int .i64 (sb 3)) ∧ W.cell? ⟨y, 4, none⟩ = some (.int .i64 (sb 4)) ∧ W.cell? ⟨y, 5, none⟩ = some (.int .i64 (sb 5)) from ⟨(E6.out.par.only o (by omega)).c2.2.1, (K6.out.only o (by have := hy.out; omega)).box.cells⟩))
      have HA6 := HK.out w6 (Only.refl _ _)
      have ly := K6.out.lt
      have lp := E6.out.par.lt
      have ED := Lib.hid (E6.out.below (Below.refl _ _).drew)
      have ZD := ED.out.res.box.free
      have O6 := Lib.hid ((Only.refl g w6).drew)
      go_region_held3 (fun W => W.cell? ⟨w.heap.size, 1, none⟩ = some (.pointer (some ⟨g, 0, none⟩)) ∧ W.cell? ⟨y, 0, none⟩ = some (.int .i64 (sb 0)) ∧ W.cell? ⟨y, 1, none⟩ = some (.int .i64 (sb 1)) ∧ W.cell? ⟨y, 2, none⟩ = some (.int .i64 (sb 2)) ∧ W.cell? ⟨y, 3, none⟩ = some (.int .i64 (sb 3)) ∧ W.cell? ⟨y, 4, none⟩ = some (.int .i64 (sb 4)) ∧ W.cell? ⟨y, 5, none⟩ = some (.int .i64 (sb 5))) (first | with_reducible exact HA7 | with_reducible exact HK.out _ O6.out | with_reducible exact HQ7) (first | (go_at_call 79; refine (CA.out _ ED.out.scan).mono ?_; rintro r w7 ⟨rfl, s7, o7⟩; have E7 := Lib.hid (ED.out.step hg s7 o7); have HA7 := HK.out _ (O6.out.trans o7); have Z7 := E7.out.res.box.free; have lr7 := E7.out.res.lt; obtain ⟨C0, C1, C2, C3, C4, C5⟩ := E7.out.res.box.cells; have HQ7 := And.intro (E7.out.par.put6_ (x := w.heap.size + 1) (by omega) sb).c2.2.1 (((K6.out.only (O6.out.trans o7) (by have := hy.out; omega)).put6_ (x := w.heap.size + 1) (by have := hy.out; omega) sb).box.cells); clear s7 o7))
      have RE := res_end E7.out.res.box sb
      obtain ⟨X0, X1, X2, X3, X4, X5⟩ := RE.cells
      go_wp2_with fail
      refine bodyPost_ret (v := .tuple #[.agg (arr sb), .int .i64 v7]) (by simp [results, Tryz.results74, go_sem, arr, X0, X1, X2, X3, X4, X5]) rfl ?_
      rw [HR3.out]
      have F7 := E7.out.done (by decide) (by decide) sb
      with_reducible exact ⟨rfl, F7⟩
end Go.Proofs.YtjjlhihocllgjaaGreatDoor.Ex
