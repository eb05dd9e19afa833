/- Contract of amount.Share where it divides. Printed by gen_sh3.py. -/
import Derived.Test.YtfopmaeaclbknaaDoorPk22
import Derived.RegionTactic
import Derived.Laws.EntriesVeiled
import Derived.Deep.CutBlock
import Derived.Deep.DeepCutAuto
namespace Go.Proofs.YtfopmaeaclbknaaDoor
open Go.ChangeShapes Go.WideShapes Go.ChangeAt Go.RowKit
set_option linter.unusedVariables false
set_option linter.unusedSimpArgs false
namespace So
theorem run_make_one {P : Program} (t e : TypeId) (i : TypeInfo) (z : Value) (ht : P.underlying t = some (.slice e)) (hi : P.info? e = some i) (hz : i.zero = some z) (hs : i.size = 1) (hb : i.bytes = 8) (h1 : z.cells = #[z]) (n : Nat) (hn : n ≤ 1000) (w : World) :
    (Instr.makeSlice t (.int .i64 (n : Int)) (.int .i64 (n : Int))).run P w = .ok (.slice (some ⟨w.heap.size, 0, none⟩) n n) (w.alloc (.cells (madeCells #[z] n) e)) := by
  have hr := run_make (P := P) w t e i z ht hi hz .i64 .i64 n n (by omega) (by omega) (by rw [hb]; omega) (by omega)
  simp only [Int.toNat_natCast, hs, Nat.mul_one, h1] at hr
  exact hr
theorem row_of_blk {w : World} {base g : Nat} {e : TypeId} {cs : Array Value} {n : Nat} (h : Blk w g e cs) (hb : base ≤ g) (hn : cs.size = n) (hm : n ≤ maxLen) : RowV w base g e n cs.toList := by
  refine ⟨by simpa using hn, by simpa using hn, .inr ⟨g, n, cs, rfl, hb, h, Nat.le_refl _, hm, by simpa using hn, ?_⟩⟩
  rw [List.take_of_length_le (by simp; omega)]
theorem made_list (z : Value) (n : Nat) : (madeCells #[z] n).toList = List.replicate n z ∧ (madeCells #[z] n).size = n := by
  constructor
  · refine List.ext_getElem (by simp [madeCells]) fun i h1 h2 => ?_
    simp [madeCells, Nat.mod_one]
  · simp [madeCells]
/-- the slices that the two makes have made, whichever came first -/
structure Made (w wx : World) (gp go n : Nat) : Prop where
  p : RowV wx w.heap.size gp 2 n (List.replicate n (.int .i64 0))
  o : RowV wx w.heap.size go 3 n (List.replicate n (.int .i64 0))
  ne : gp ≠ go
  below : Below w.heap.size w wx
theorem made_one {w : World} {n : Nat} (hn : n ≤ 1000) : Made w (((w.alloc (.cells (madeCells #[.int .i64 0] n) 2)).alloc (.cells (madeCells #[.int .i64 0] n) 3)).drew) w.heap.size (w.heap.size + 1) n := by
  have e1 : (w.alloc (.cells (madeCells #[.int .i64 0] n) 2)).heap.size = w.heap.size + 1 := by simp
  have k1 := ((Blk.new w 2 (madeCells #[.int .i64 0] n)).alloc (.cells (madeCells #[.int .i64 0] n) 3)).drew
  have k2 := (Blk.new (w.alloc (.cells (madeCells #[.int .i64 0] n) 2)) 3 (madeCells #[.int .i64 0] n)).drew
  rw [e1] at k2
  have h1 := made_list (.int .i64 0) n
  refine ⟨?_, ?_, by omega, (((Below.refl _ _).alloc (Nat.le_refl _) _).alloc (by omega) _).drew⟩
  · rw [← h1.1]; exact row_of_blk k1 (Nat.le_refl _) h1.2 (by unfold maxLen; omega)
  · rw [← h1.1]; exact row_of_blk k2 (by omega) h1.2 (by unfold maxLen; omega)
theorem made_two {w : World} {n : Nat} (hn : n ≤ 1000) : Made w (((w.alloc (.cells (madeCells #[.int .i64 0] n) 3)).alloc (.cells (madeCells #[.int .i64 0] n) 2)).drew) (w.heap.size + 1) w.heap.size n := by
  have e1 : (w.alloc (.cells (madeCells #[.int .i64 0] n) 3)).heap.size = w.heap.size + 1 := by simp
  have k1 := ((Blk.new w 3 (madeCells #[.int .i64 0] n)).alloc (.cells (madeCells #[.int .i64 0] n) 2)).drew
  have k2 := (Blk.new (w.alloc (.cells (madeCells #[.int .i64 0] n) 3)) 2 (madeCells #[.int .i64 0] n)).drew
  rw [e1] at k2
  have h1 := made_list (.int .i64 0) n
  refine ⟨?_, ?_, by omega, (((Below.refl _ _).alloc (Nat.le_refl _) _).alloc (by omega) _).drew⟩
  · rw [← h1.1]; exact row_of_blk k2 (by omega) h1.2 (by unfold maxLen; omega)
  · rw [← h1.1]; exact row_of_blk k1 (Nat.le_refl _) h1.2 (by unfold maxLen; omega)
/-- what Share answers where it divides -/
def SharePost (T : Nat) (W : List Nat) (w : World) (e : Ending) (w' : World) : Prop := ∃ order v', e = .returned (.tuple #[v', .int .i64 0]) ∧ IsOrder T W (sumN W W.length) order ∧ IS w' v' (toI (shares T W (sumN W W.length) order)) ∧ Below w.heap.size w w'
/-- a slice of memory that is new -/
def Fresh (w : World) (v : Value) : Prop := ∀ k, v.ownBlock = some k → w.heap.size ≤ k
def SharePostF (T : Nat) (W : List Nat) (w : World) (e : Ending) (w' : World) : Prop := ∃ order v', e = .returned (.tuple #[v', .int .i64 0]) ∧ IsOrder T W (sumN W W.length) order ∧ IS w' v' (toI (shares T W (sumN W W.length) order)) ∧ Below w.heap.size w w' ∧ Fresh w v'
theorem ints_zeros (n : Nat) : List.replicate n (Value.int .i64 0) = ints (List.replicate n 0) := by simp [ints]
theorem fill_set {o : List Nat} {n k : Nat} (hk : k < n) (ho : o.length = k) (d : Nat) : (o ++ List.replicate (n - k) 0).set k d = (o ++ [d]) ++ List.replicate (n - (k + 1)) 0 := Fr.set_fill' hk ho d
theorem prt_facts {T x S : Nat} (hT : T ≤ 1000000) (hx : x ≤ 1000000) (hS : 0 < S) : ∃ p q : Nat, (p = T * x ∧ q = T * x / S) ∧ IntKind.i64.wrap ((T : Int) * (x : Int)) = ((p : Nat) : Int) ∧ (p : Int) / (S : Int) = ((q : Nat) : Int) ∧ (p : Int).tdiv (S : Int) = ((q : Nat) : Int) ∧ IntKind.i64.wrap ((q : Nat) : Int) = ((q : Nat) : Int) ∧ (0 : Int) ≤ (p : Int) ∧ (0 : Int) ≤ (q : Int) := by
  have h1 : T * x ≤ 1000000 * 1000000 := Nat.mul_le_mul hT hx
  have h2 : T * x / S ≤ T * x := Nat.div_le_self _ _
  have e : (T : Int) * (x : Int) = ((T * x : Nat) : Int) := by simp
  refine ⟨T * x, T * x / S, ⟨rfl, rfl⟩, ?_, by simp, by rw [Int.ofNat_tdiv], ?_, by omega, ?_⟩
  · rw [e]
    exact IntWalk.i64_in _ (by omega)
  · generalize T * x / S = q at *
    exact IntWalk.i64_in _ (by omega)
  · generalize T * x / S = q at *
    omega
/-- the memory of Share at work -/
structure ShSt (w wr : World) (gp go gc : Nat) (T n S : Nat) (A : Option Addr) (c : Nat) (Lp Lo : List Nat) : Prop where
  b2 : Blk wr w.heap.size 2 #[.int .i64 (T : Int)]
  b3 : Blk wr (w.heap.size + 1) 22 #[.slice A n c]
  b6 : Blk wr (w.heap.size + 2) 2 #[.int .i64 (S : Int)]
  fn : Blk wr gc 85 #[(.func (.func 47) #[] #[.pointer (some ⟨w.heap.size, 0, none⟩), .pointer (some ⟨w.heap.size + 1, 0, none⟩), .pointer (some ⟨w.heap.size + 2, 0, none⟩)])]
  p : RowV wr w.heap.size gp 2 n (ints Lp)
  o : RowV wr w.heap.size go 3 n (ints Lo)
  below : Below w.heap.size w wr
/-- its blocks lie apart -/
structure ShAp (w : World) (gp go gc : Nat) : Prop where
  p : w.heap.size + 2 < gp
  o : w.heap.size + 2 < go
  ne : gp ≠ go
  pc : gp < gc
  oc : go < gc
section
variable {w wr w2 : World} {gp go gc T n S : Nat} {A : Option Addr} {c : Nat} {Lp Lo : List Nat}
theorem ShSt.drewN (h : ShSt w wr gp go gc T n S A c Lp Lo) (m : Nat) : ShSt w (wr.drewN m) gp go gc T n S A c Lp Lo := ⟨h.b2.drewN m, h.b3.drewN m, h.b6.drewN m, h.fn.drewN m, h.p.drewN m, h.o.drewN m, ⟨h.below.os, h.below.tape, h.below.output, h.below.size, h.below.block⟩⟩
theorem ShSt.drew (h : ShSt w wr gp go gc T n S A c Lp Lo) : ShSt w wr.drew gp go gc T n S A c Lp Lo := h.drewN 1
theorem ShSt.putP (h : ShSt w wr gp go gc T n S A c Lp Lo) (a : ShAp w gp go gc) (i x : Nat) : ShSt w (wr.setCell ⟨gp, i, none⟩ (.int .i64 (x : Int))) gp go gc T n S A c (Lp.set i x) Lo :=
  ⟨h.b2.far (by have := a.p; show _ ≠ gp; omega) _, h.b3.far (by have := a.p; show _ ≠ gp; omega) _, h.b6.far (by have := a.p; show _ ≠ gp; omega) _, h.fn.far (by have := a.pc; show _ ≠ gp; omega) _, by have := h.p.put i (.int .i64 (x : Int)); rwa [ints_set] at this, h.o.other ((Far.refl gp wr).put i _) (Ne.symm a.ne), h.below.setCell (by have := a.p; show _ ≤ gp; omega) _⟩
theorem ShSt.putO (h : ShSt w wr gp go gc T n S A c Lp Lo) (a : ShAp w gp go gc) (i x : Nat) : ShSt w (wr.setCell ⟨go, i, none⟩ (.int .i64 (x : Int))) gp go gc T n S A c Lp (Lo.set i x) :=
  ⟨h.b2.far (by have := a.o; show _ ≠ go; omega) _, h.b3.far (by have := a.o; show _ ≠ go; omega) _, h.b6.far (by have := a.o; show _ ≠ go; omega) _, h.fn.far (by have := a.oc; show _ ≠ go; omega) _, h.p.other ((Far.refl go wr).put i _) a.ne, by have := h.o.put i (.int .i64 (x : Int)); rwa [ints_set] at this, h.below.setCell (by have := a.o; show _ ≤ go; omega) _⟩
theorem Blk.farG {g b : Nat} {t : TypeId} {cs : Array Value} (h : Blk wr b t cs) (f : Far g wr w2) (hb : b ≠ g) : Blk w2 b t cs := (f.block b h.lt hb).trans h
theorem ShSt.sorted (h : ShSt w wr gp go gc T n S A c Lp Lo) (a : ShAp w gp go gc) {Lo' : List Nat} (f : Far go wr w2) (ho : RowV w2 w.heap.size go 3 n (ints Lo')) : ShSt w w2 gp go gc T n S A c Lp Lo' :=
  ⟨Blk.farG h.b2 f (by have := a.o; omega), Blk.farG h.b3 f (by have := a.o; omega), Blk.farG h.b6 f (by have := a.o; omega), Blk.farG h.fn f (by have := a.oc; omega), h.p.other f a.ne, ho, f.below h.below (by have := a.o; omega) h.below.size⟩
theorem ShSt.env {W : List Nat} (h : ShSt w wr gp go gc T W.length S A c Lp Lo) (hc : 0 < W.length → ∃ b o, A = some ⟨b, o, none⟩ ∧ b < w.heap.size ∧ ∀ (i : Nat) x, (toI W)[i]? = some x → w.cell? ⟨b, o + i, none⟩ = some (.int .i64 x)) : Env wr w.heap.size (w.heap.size + 1) (w.heap.size + 2) gc T W S A c := by
  refine ⟨h.b2.cell 0, h.b3.cell 0, h.b6.cell 0, h.fn.cell 0, fun hn => ?_⟩
  obtain ⟨b, o, e, hb, hx⟩ := hc hn
  exact ⟨b, o, e, Nat.lt_of_lt_of_le hb h.below.size, fun i hi => (h.below.cell (p := ⟨b, o + i, none⟩) hb).trans (hx i _ (toI_at hi))⟩
end
set_option maxHeartbeats 4000000 in
set_option maxRecDepth 100000 in
theorem share_full (T : Nat) (W : List Nat) (v : Value) (w : World) (hT : T ≤ 1000000) (hW : ∀ x ∈ W, x ≤ 1000000) (hl : W.length ≤ 1000) (hS : 0 < sumN W W.length) (hsort : SortsAt W.length) (h : IS w v (toI W)) : Calls Tryd.prog 15 #[.int .i64 (T : Int), v] w (SharePostF T W w) := by
  obtain ⟨i0, hi0, hz0, hz1, hz2⟩ := info_parts (show (Tryd.prog.info? 3).map (fun i => (i.zero, i.size, i.bytes)) = some (some (.int .i64 0), 1, 8) by kernel_rfl)
  obtain ⟨j0, hj0, hy0, hy1, hy2⟩ := info_parts (show (Tryd.prog.info? 2).map (fun i => (i.zero, i.size, i.bytes)) = some (some (.int .i64 0), 1, 8) by kernel_rfl)
  have hm1 := fun w => run_make_one (P := Tryd.prog) 22 2 j0 (.int .i64 0) Tryd.underlying22 hj0 hy0 hy1 hy2 rfl W.length hl w
  have hm2 := fun w => run_make_one (P := Tryd.prog) 84 3 i0 (.int .i64 0) Tryd.underlying84 hi0 hz0 hz1 hz2 rfl W.length hl w
  obtain ⟨A, c, rfl, h1, h2, hc⟩ := is_cases h
  rw [toI_len] at hc ⊢
  have hl6 : (W.length : Int) ≤ 1000 := by omega
  have hT0 : (0 : Int) ≤ (T : Int) := by omega
  have hT1 : (T : Int) ≤ 1000000 := by omega
  have HC := Lib.hid hc
  have HSO := Lib.hid hsort
  clear h h1 hc hsort
  go_enter Tryd.func15, Tryd.ntmps15
  go_wp2_with fail
  have hP : Hid (Blk (((w.alloc (.cells #[.int .i64 (T : Int)] 2)).alloc (.cells #[.slice A W.length c] 22)).alloc (.cells #[.int .i64 0] 2)) w.heap.size 2 #[.int .i64 (T : Int)] ∧ Blk (((w.alloc (.cells #[.int .i64 (T : Int)] 2)).alloc (.cells #[.slice A W.length c] 22)).alloc (.cells #[.int .i64 0] 2)) (w.heap.size + 1) 22 #[.slice A W.length c] ∧ Blk (((w.alloc (.cells #[.int .i64 (T : Int)] 2)).alloc (.cells #[.slice A W.length c] 22)).alloc (.cells #[.int .i64 0] 2)) (w.heap.size + 2) 2 #[.int .i64 0] ∧ Below w.heap.size w (((w.alloc (.cells #[.int .i64 (T : Int)] 2)).alloc (.cells #[.slice A W.length c] 22)).alloc (.cells #[.int .i64 0] 2))) := three_new w _ _ _ _ _ _
  generalize (((w.alloc (.cells #[.int .i64 (T : Int)] 2)).alloc (.cells #[.slice A W.length c] 22)).alloc (.cells #[.int .i64 0] 2)) = w1 at *
  go_loopw [17] (fun v wr => ∃ k : Nat, k ≤ W.length ∧ v = .int .i64 (k : Int) ∧ Hid (Blk wr w.heap.size 2 #[.int .i64 (T : Int)] ∧ Blk wr (w.heap.size + 1) 22 #[.slice A W.length c] ∧ Blk wr (w.heap.size + 2) 2 #[.int .i64 ((sumN W k : Nat) : Int)] ∧ Below w.heap.size w wr)) (fun v _ => W.length + 1 - (intOf v).toNat)
  case atStart => exact ⟨0, Nat.zero_le _, rfl, hP⟩
  case round =>
    clear hP
    obtain ⟨k, hk, rfl, HB⟩ := hrel
    have hk0 : (0 : Int) ≤ (k : Int) := by omega
    have hk5 : (k : Int) ≤ 1000 := by omega
    have s1 := HB.out.1.c1
    have s2 := HB.out.2.1.c1
    have s3 := HB.out.2.2.1.c1
    have s4 := HB.out.2.2.1.lt
    have hsum := sumN_le hW k
    have hs0 : (0 : Int) ≤ ((sumN W k : Nat) : Int) := by omega
    have hs1 : ((sumN W k : Nat) : Int) ≤ 1000000000 := by omega
    by_cases hkn : k < W.length
    · have hd1 : decide (k < W.length) = true := decide_eq_true (by omega)
      have hd2 : decide ((k : Int) < (W.length : Int)) = true := decide_eq_true (by omega)
      obtain ⟨b, o, eA, hb, hc⟩ := HC.out (by omega)
      subst eA
      have c1 : wr.cell? ⟨b, o + k, none⟩ = some (.int .i64 ((at_ W k : Nat) : Int)) := (HB.out.2.2.2.cell (p := ⟨b, o + k, none⟩) hb).trans (hc k _ (toI_at hkn))
      have hx : at_ W k ≤ 1000000 := by rw [at_in hkn]; exact hW _ (List.getElem_mem hkn)
      have CI := Lib.hid (is_yes ((at_ W k : Nat) : Int) wr (by omega) (by omega))
      have HS := Lib.hid (sumN_succ hkn)
      have HB2 : Hid (Blk (wr.setCell ⟨w.heap.size + 2, 0, none⟩ (.int .i64 (((sumN W k : Nat) : Int) + ((at_ W k : Nat) : Int)))) w.heap.size 2 #[.int .i64 (T : Int)] ∧ Blk (wr.setCell ⟨w.heap.size + 2, 0, none⟩ (.int .i64 (((sumN W k : Nat) : Int) + ((at_ W k : Nat) : Int)))) (w.heap.size + 1) 22 #[.slice (some ⟨b, o, none⟩) W.length c] ∧ Blk (wr.setCell ⟨w.heap.size + 2, 0, none⟩ (.int .i64 (((sumN W k : Nat) : Int) + ((at_ W k : Nat) : Int)))) (w.heap.size + 2) 2 #[.int .i64 ((sumN W (k + 1) : Nat) : Int)] ∧ Below w.heap.size w (wr.setCell ⟨w.heap.size + 2, 0, none⟩ (.int .i64 (((sumN W k : Nat) : Int) + ((at_ W k : Nat) : Int))))) := by
        refine ⟨HB.out.1.far (by show _ ≠ w.heap.size + 2; omega) _, HB.out.2.1.far (by show _ ≠ w.heap.size + 2; omega) _, ?_, HB.out.2.2.2.setCell (by show _ ≤ w.heap.size + 2; omega) _⟩
        have := HB.out.2.2.1.put 0 (.int .i64 (((sumN W k : Nat) : Int) + ((at_ W k : Nat) : Int)))
        rw [HS.out]
        simpa using this
      have ha0 : (0 : Int) ≤ ((at_ W k : Nat) : Int) := by omega
      have ha1 : ((at_ W k : Nat) : Int) ≤ 1000000 := by omega
      clear hc hx hsum
      go_wp2_with fail
      refine CI.out.mono ?_
      rintro e w2 ⟨rfl, rfl⟩
      go_wp2_with fail
      go_roundw
      case rel => exact ⟨k + 1, by omega, by go_num, HB2⟩
      case measure => simp [intOf]; omega
    · obtain rfl : k = W.length := by omega
      have hd1 : decide (W.length < W.length) = false := decide_eq_false (by omega)
      have hd2 : decide ((W.length : Int) < (W.length : Int)) = false := decide_eq_false (by omega)
      have CT := Lib.hid (is_yes (T : Int) wr hT0 hT1)
      obtain ⟨S, hSS⟩ : ∃ S, S = sumN W W.length := ⟨_, rfl⟩
      rw [← hSS] at s3 hS hs0 hs1 HB hsum
      have HSS := Lib.hid hSS
      have hq : ((S : Int) == 0) = false := beq_eq_false_iff_ne.2 (by omega)
      have hm1 := Lib.hid hm1
      have hm2 := Lib.hid hm2
      clear hSS hsum
      go_wp2_with fail
      refine CT.out.mono ?_
      rintro e w2 ⟨rfl, rfl⟩
      go_upto_region 13 with fail
      go_cut [9, 10, 11] (fun s9 s10 s11 wx => ∃ gp go : Nat, s9 = .slice (some ⟨gp, 0, none⟩) W.length W.length ∧ s10 = .slice (some ⟨go, 0, none⟩) W.length W.length ∧ s11 = .int .i64 (T : Int) ∧ Hid (Made wr wx gp go W.length))
      case first =>
        have l1 := HB.out.1.lt
        have l2 := HB.out.2.1.lt
        have hm3 := hm1.out
        have hm4 := hm2.out
        go_region
        all_goals (try go_wp2_with fail)
        all_goals go_meet
        case rel => exact ⟨_, _, rfl, rfl, rfl, made_one hl⟩
        case rel => exact ⟨_, _, rfl, rfl, rfl, made_two hl⟩
      case rest =>
        obtain ⟨gp, go, rfl, rfl, rfl, HM⟩ := hcut
        have HB3 : Hid (Blk wc w.heap.size 2 #[.int .i64 (T : Int)] ∧ Blk wc (w.heap.size + 1) 22 #[.slice A W.length c] ∧ Blk wc (w.heap.size + 2) 2 #[.int .i64 (S : Int)] ∧ Below w.heap.size w wc) := ⟨HB.out.1.below' HM.out.below, HB.out.2.1.below' HM.out.below, HB.out.2.2.1.below' HM.out.below, chain0 HB.out.2.2.2 HM.out.below⟩
        have HN : Hid (wr.heap.size ≤ gp ∧ wr.heap.size ≤ go ∧ gp ≠ go ∧ gp < wc.heap.size ∧ go < wc.heap.size ∧ w.heap.size + 2 < wr.heap.size ∧ w.heap.size ≤ wr.heap.size) := ⟨HM.out.p.far, HM.out.o.far, HM.out.ne, HM.out.p.lt, HM.out.o.lt, s4, HB.out.2.2.2.size⟩
        have HRP : Hid (RowV wc w.heap.size gp 2 W.length (ints (List.replicate W.length 0))) := by
          have := (HM.out.p).rebase (HB.out.2.2.2.size)
          rwa [ints_zeros] at this
        have HRO : Hid (RowV wc w.heap.size go 3 W.length (ints (List.replicate W.length 0))) := by
          have := (HM.out.o).rebase (HB.out.2.2.2.size)
          rwa [ints_zeros] at this
        clear HM s1 s2 s3 s4 HB CT hd1 hd2
        go_upto_region 15 with fail
        have HAP : Hid (ShAp w gp go wc.heap.size) := ⟨by have := HN.out.1; have := HN.out.2.2.2.2.2.1; omega, by have := HN.out.2.1; have := HN.out.2.2.2.2.2.1; omega, HN.out.2.2.1, HN.out.2.2.2.1, HN.out.2.2.2.2.1⟩
        have HST : Hid (ShSt w (wc.alloc (.cells #[(.func (.func 47) #[] #[.pointer (some ⟨w.heap.size, 0, none⟩), .pointer (some ⟨w.heap.size + 1, 0, none⟩), .pointer (some ⟨w.heap.size + 2, 0, none⟩)])] 85)) gp go wc.heap.size T W.length S A c (List.replicate W.length 0) (List.replicate W.length 0)) := ⟨HB3.out.1.alloc _, HB3.out.2.1.alloc _, HB3.out.2.2.1.alloc _, Blk.new wc _ _, HRP.out.keep (below_new wc _), HRO.out.keep (below_new wc _), chain0 HB3.out.2.2.2 (below_new wc _)⟩
        generalize (wc.alloc (.cells #[(.func (.func 47) #[] #[.pointer (some ⟨w.heap.size, 0, none⟩), .pointer (some ⟨w.heap.size + 1, 0, none⟩), .pointer (some ⟨w.heap.size + 2, 0, none⟩)])] 85)) = wd at *
        obtain ⟨gc, hgc⟩ : ∃ gc, gc = wc.heap.size := ⟨_, rfl⟩
        rw [← hgc] at HST HAP ⊢
        clear hgc
        have l1 := HST.out.b3.c1
        have l2 := HST.out.b3.lt
        clear HB3 HRP HRO
        go_wp2_with fail
        have HPT : Hid (∀ k, k ≤ W.length → psum T W S k ≤ T) := fun k hk => psum_le hk hS (by have := sumN_mono (W := W) k; rw [← HSS.out] at this; exact this)
        clear l1 l2
        go_loopw [45, 11] (fun iv lv wq => ∃ k : Nat, k ≤ W.length ∧ iv = .int .i64 (k : Int) ∧ lv = .int .i64 ((T - psum T W S k : Nat) : Int) ∧ Hid (ShSt w wq gp go gc T W.length S A c (pl T W S k ++ List.replicate (W.length - k) 0) (List.range k ++ List.replicate (W.length - k) 0))) (fun iv _ _ => W.length - (intOf iv).toNat)
        case atStart => exact ⟨0, Nat.zero_le _, rfl, by simp [psum, pl], by show ShSt _ _ _ _ _ _ _ _ _ _ _ _; have := HST.out; simpa [pl] using this⟩
        case round =>
          obtain ⟨k, hk, rfl, rfl, HQ⟩ := hrel
          have hk0 : (0 : Int) ≤ (k : Int) := by omega
          have hk5 : (k : Int) ≤ 1000 := by omega
          by_cases hkn : k < W.length
          · have hd1 : decide (k < W.length) = true := decide_eq_true hkn
            have hd2 : decide ((k : Int) < (W.length : Int)) = true := decide_eq_true (by omega)
            obtain ⟨b, o, eA, hb, hcx⟩ := (HQ.out.env HC.out).cells (by omega)
            have x1 := HQ.out.b2.c1
            have x2 := HQ.out.b3.c1
            have x3 := HQ.out.b6.c1
            have x4 := hcx k hkn
            subst eA
            have y1 := HQ.out.p.free k
            have y2 := HQ.out.p.lt
            have y3 : wr.cell? ⟨gp, k, none⟩ = some (.int .i64 0) := by
              have := HQ.out.p.cell hkn
              rw [this]
              exact ints_at (by rw [List.getElem?_append_right (by rw [pl_len]; exact Nat.le_refl _), pl_len, Nat.sub_self, List.getElem?_replicate, if_pos (by omega)])
            have z1 := HQ.out.o.free k
            have z2 := HQ.out.o.lt
            have z3 : wr.cell? ⟨go, k, none⟩ = some (.int .i64 0) := by
              have := HQ.out.o.cell hkn
              rw [this]
              exact ints_at (by rw [List.getElem?_append_right (by rw [List.length_range]; exact Nat.le_refl _), List.length_range, Nat.sub_self, List.getElem?_replicate, if_pos (by omega)])
            have z4 := HAP.out.ne
            have z5 := Ne.symm HAP.out.ne
            obtain ⟨p, q, hpq, m1, m2, m3, m4, m5, m6⟩ := prt_facts (x := at_ W k) hT (by rw [at_in hkn]; exact hW _ (List.getElem_mem hkn)) hS
            have HPQ : Hid (prt T W S k = q) := hpq.2.symm
            have hq2 : psum T W S k + q ≤ T := by
              have h1 := HPT.out (k + 1) (by omega)
              rw [psum_succ, HPQ.out] at h1
              exact h1
            clear hcx hpq
            go_wp2_with fail
            have HQ2 : Hid (ShSt w ((wr.setCell ⟨gp, k, none⟩ (.int .i64 (q : Int))).setCell ⟨go, k, none⟩ (.int .i64 (k : Int))) gp go gc T W.length S (some ⟨b, o, none⟩) c (pl T W S (k + 1) ++ List.replicate (W.length - (k + 1)) 0) (List.range (k + 1) ++ List.replicate (W.length - (k + 1)) 0)) := by
              have h1 := (HQ.out.putP HAP.out k q).putO HAP.out k k
              rw [fill_set hkn pl_len, fill_set hkn List.length_range] at h1
              rw [pl_succ, HPQ.out, List.range_succ]
              exact h1
            have hlv : (((T - psum T W S k : Nat) : Int) - (q : Int)) = ((T - psum T W S (k + 1) : Nat) : Int) := by rw [psum_succ, HPQ.out]; omega
            have HLV := Lib.hid hlv
            clear hlv
            go_region
            all_goals (try go_wp2_with fail)
            go_roundw
            case rel => exact ⟨k + 1, by omega, by go_num, by rw [HLV.out], HQ2.out.drew⟩
            case measure => simp [intOf]; omega
          · have hd1 : decide (k < W.length) = false := decide_eq_false hkn
            have hd2 : decide ((k : Int) < (W.length : Int)) = false := decide_eq_false (by omega)
            obtain rfl : k = W.length := by omega
            have HQ3 : Hid (ShSt w wr gp go gc T W.length S A c (pl T W S W.length) (List.range W.length)) := by
              have := HQ.out
              rw [Nat.sub_self] at this
              show ShSt _ _ _ _ _ _ _ _ _ _ _ _
              simpa using this
            have HCO : Hid (CmpOk wr go gc W.length (rst T W S)) := cmp_ok (HQ3.out.env HC.out) hT hW hS (by omega) hl (by have := HAP.out.o; omega) (by have := HAP.out.o; omega) (by have := HAP.out.o; omega) (by have := HAP.out.oc; omega) (fun b o e => by
              rcases Nat.eq_zero_or_pos W.length with h0 | h0
              · rw [List.eq_nil_of_length_eq_zero h0] at HSS
                have := HSS.out
                simp [sumN] at this
                omega
              · obtain ⟨b', o', e', hb', _⟩ := HC.out h0
                rw [e] at e'
                injection e' with e'
                injection e' with e1 e2
                have := HAP.out.o
                omega)
            have CS := Lib.hid (HSO.out wr w.heap.size go gc W.length (rst T W S) (List.range W.length) (fun x hx => List.mem_range.1 hx) (range_rise _) HCO.out HQ3.out.o)
            have HLL : Hid (T - psum T W S W.length < W.length) := left_lt hS HSS.out
            obtain ⟨lf, hlf⟩ : ∃ lf, lf = T - psum T W S W.length := ⟨_, rfl⟩
            have HLF := Lib.hid hlf
            rw [← hlf] at HLL ⊢
            have hl9 : lf < W.length := HLL.out
            clear hlf hkn hd1 hd2 hk hk0 hk5
            go_wp2_with fail
            refine CS.out.mono ?_
            rintro e w5 ⟨order, rfl, h1, h2, h3, h4⟩
            have HOR : Hid (IsOrder T W S order) := ⟨h1, h2⟩
            have HQ5 : Hid (ShSt w w5 gp go gc T W.length S A c (fin T W S order 0) order) := by
              have := HQ3.out.sorted HAP.out (Lo' := order) h4 (by simpa using h3)
              rw [fin_zero]
              exact this
            clear h1 h2 h3 h4 CS HCO HQ HQ3
            go_wp2_with fail
            go_loopw [74] (fun iv wq => ∃ m : Nat, m ≤ lf ∧ iv = .int .i64 (m : Int) ∧ Hid (ShSt w wq gp go gc T W.length S A c (fin T W S order m) order)) (fun iv _ => lf - (intOf iv).toNat)
            case atStart => exact ⟨0, Nat.zero_le _, rfl, HQ5⟩
            case round =>
              obtain ⟨m, hm, rfl, HQ⟩ := hrel
              have hm0 : (0 : Int) ≤ (m : Int) := by omega
              have hm5 : (m : Int) ≤ 1000 := by omega
              by_cases hml : m < lf
              · have hd1 : decide (m < lf) = true := decide_eq_true hml
                have hd2 : decide ((m : Int) < (lf : Int)) = true := decide_eq_true (by omega)
                have hmo : m < order.length := by rw [HOR.out.len]; omega
                have hox := HOR.out.lt (List.getElem_mem hmo)
                obtain ⟨hf1, hf2⟩ := fin_step (T := T) (S := S) HOR.out.nodup hmo hox
                have x1 : wr.cell? ⟨go, m, none⟩ = some (.int .i64 ((order[m] : Nat) : Int)) := (HQ.out.o.cell (by omega)).trans (ints_at (List.getElem?_eq_getElem hmo))
                have x2 : wr.cell? ⟨gp, order[m], none⟩ = some (.int .i64 ((prt T W S order[m] : Nat) : Int)) := (HQ.out.p.cell hox).trans (ints_at hf1)
                have x3 := HQ.out.p.free order[m]
                have x4 := HQ.out.p.lt
                have HQ2 := HQ.out.putP HAP.out order[m] (prt T W S order[m] + 1)
                rw [hf2] at HQ2
                have HQ2 := Lib.hid HQ2
                have HPB : Hid (prt T W S order[m] ≤ T * 1000000) := by
                  have h5 : at_ W order[m] ≤ 1000000 := by rw [at_in hox]; exact hW _ (List.getElem_mem hox)
                  exact Nat.le_trans (Nat.div_le_self _ _) (Nat.mul_le_mul_left _ h5)
                have hPB2 : T * 1000000 ≤ 1000000 * 1000000 := Nat.mul_le_mul_right _ hT
                have hp9 : ((prt T W S order[m] : Nat) : Int) ≤ 1000000000000 := by have := HPB.out; omega
                have hp0 : (0 : Int) ≤ ((prt T W S order[m] : Nat) : Int) := by omega
                clear hf1 hf2 hPB2
                generalize prt T W S order[m] = p at *
                generalize order[m] = x at *
                have hxn : (x : Int) < (W.length : Int) := by omega
                have hx0 : (0 : Int) ≤ (x : Int) := by omega
                have hmn : (m : Int) < (W.length : Int) := by omega
                have hmn2 : m < W.length := by omega
                go_wp2_with fail
                go_roundw
                case rel => exact ⟨m + 1, by omega, by go_num, HQ2⟩
                case measure => simp [intOf]; omega
              · have hd1 : decide (m < lf) = false := decide_eq_false hml
                have hd2 : decide ((m : Int) < (lf : Int)) = false := decide_eq_false (by omega)
                obtain rfl : m = lf := by omega
                go_wp2_with fail
                go_ret2
                refine ⟨order, .slice (some ⟨gp, 0, none⟩) W.length W.length, rfl, by rw [← HSS.out]; exact HOR.out, ?_, HQ.out.below, fun q hq => (HQ.out.p.2.lt q hq).1⟩
                have h1 := HQ.out.p.sl
                have e2 : (toI (fin T W S order m)).map (fun x => Value.int .i64 x) = ints (fin T W S order m) := by simp [toI, ints]
                show Sl _ 1 _ (toI (shares T W (sumN W W.length) order)).length _
                unfold shares
                rw [← HSS.out, ← HLF.out, e2, toI_len, fin_len]
                exact h1
theorem share_ok (T : Nat) (W : List Nat) (v : Value) (w : World) (hT : T ≤ 1000000) (hW : ∀ x ∈ W, x ≤ 1000000) (hl : W.length ≤ 1000) (hS : 0 < sumN W W.length) (hsort : SortsAt W.length) (h : IS w v (toI W)) : Calls Tryd.prog 15 #[.int .i64 (T : Int), v] w (SharePost T W w) :=
  (share_full T W v w hT hW hl hS hsort h).mono fun e w' ⟨order, v', h1, h2, h3, h4, _⟩ => ⟨order, v', h1, h2, h3, h4⟩
end So
end Go.Proofs.YtfopmaeaclbknaaDoor
