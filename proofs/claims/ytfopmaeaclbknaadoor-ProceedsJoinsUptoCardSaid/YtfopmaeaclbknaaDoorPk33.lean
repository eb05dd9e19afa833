/- Contract of the reference's reserve; lists of shares in memory. Printed by gen_pr7.py. The listed table of the powers of ten, out of the row's condition; the start of the witness. Lists of shares and of weights in memory; what Divide computes. -/
import Derived.Test.YtfopmaeaclbknaaDoorPk28
import Derived.Test.YtfopmaeaclbknaaDoorPk32
import Derived.Test.YtfopmaeaclbknaaDoorRows
import Derived.Test.YtfopmaeaclbknaaDoorPk25
import Derived.ProofKit
import Derived.Lay
import Derived.MakeChecks
import Derived.Lib.LaidTab
import Derived.Test.YtfopmaeaclbknaaDoorPk26
namespace Go.Proofs.YtfopmaeaclbknaaDoor.Pr
open Go.ChangeShapes Go.WideShapes Go.ChangeAt Go.RowKit Go.Maps Go.WideMaps Gn Cat Lex
set_option linter.unusedVariables false
set_option linter.unusedSimpArgs false
/-- the sum over the first numbers of a list -/
def lsum (f : Nat → Int) (l : List Int) (k : Nat) : Int := listS f (l.take k)
theorem lsum_succ {f : Nat → Int} {l : List Int} {k : Nat} (h : k < l.length) : lsum f l (k + 1) = lsum f l k + f l[k].toNat := by
  unfold lsum listS
  rw [List.take_succ_eq_append_getElem h, List.map_append, List.sum_append]
  simp only [List.map_cons, List.map_nil, List.sum_cons, List.sum_nil, Int.add_zero]
theorem lsum_all {f : Nat → Int} {l : List Int} : lsum f l l.length = listS f l := by unfold lsum; rw [List.take_length]
theorem lsum_range {f : Nat → Int} {l : List Int} {M : Int} (hM : 0 ≤ M) (h : ∀ p ∈ l, 0 ≤ f p.toNat ∧ f p.toNat ≤ M) : ∀ k, k ≤ l.length → 0 ≤ lsum f l k ∧ lsum f l k ≤ k * M
  | 0, _ => by simp [lsum, listS]
  | k + 1, hk => by
    have h1 := lsum_range hM h k (by omega)
    have h2 := h l[k] (List.getElem_mem (by omega))
    have e : ((k + 1 : Nat) : Int) * M = k * M + M := by rw [Int.natCast_add, Int.add_mul]; simp
    rw [lsum_succ (by omega), e]
    omega
theorem listS_add {f g : Nat → Int} : ∀ l : List Int, listS (fun k => f k + g k) l = listS f l + listS g l
  | [] => rfl
  | p :: l => by
    have := listS_add (f := f) (g := g) l
    show f p.toNat + g p.toNat + listS (fun k => f k + g k) l = f p.toNat + listS f l + (g p.toNat + listS g l)
    omega
theorem fW_eq (ps : List Prod) (b : Nat → Int) : fW ps b = fun k => fR ps b k + b k := by
  funext k
  unfold fW fR
  rw [Int.mul_add, Int.mul_one]
/-- a bundle's cells, by number -/
theorem six_at {w : World} {g : Nat} {t : TypeId} {b : Nat → Int} (h : Blk w g t #[.int .i64 (b 0), .int .i64 (b 1), .int .i64 (b 2), .int .i64 (b 3), .int .i64 (b 4), .int .i64 (b 5)]) (k : Nat) (hk : k < 6) : w.cell? ⟨g, k, none⟩ = some (.int .i64 (b k)) := by
  rw [h.cell]
  match k, hk with
  | 0, _ => rfl
  | 1, _ => rfl
  | 2, _ => rfl
  | 3, _ => rfl
  | 4, _ => rfl
  | 5, _ => rfl
set_option maxHeartbeats 4000000 in
set_option maxRecDepth 100000 in
theorem rreserve_any (ps : List Prod) (nm : ByteArray) (Ap : Option Addr) (px : List Int) (cp : Nat) (b : Nat → Int) (v1 v2 v3 v4 : Value) (w : World) (hs : SetP w v1 ps) (hz : checkE ps = 0) (hb : validB b = true) (hv : Sl w 1 (.slice Ap px.length cp) px.length (px.map fun z => Value.int .i64 z)) (hr : ∀ p ∈ px, 0 ≤ p ∧ p < (ps.length : Int)) (hl : px.length ≤ 1000) :
    Calls Tryd.prog 64 #[.agg #[v1, v2, v3, v4], .agg #[.string nm, .slice Ap px.length cp], .agg (arr b)] w fun e w' => e = .returned (.tuple #[.int .i64 (listS (fR ps b) px), .int .i64 (min (listS (fW ps b) px) 1000000)]) ∧ Below w.heap.size w w' := by
  obtain ⟨A1, c1, rfl, _, _, hps⟩ := ps_cases hs.sl
  have hn := checkE_zero hz
  obtain ⟨b1, o1, rfl, hb1, hrow⟩ := hps hn.1
  obtain ⟨_, _, e9, _, _, hrp⟩ := sl_parts hv
  injection e9 with e9 e10 e11
  subst e9 e11
  have HR := Lib.hid hrp
  have HRG := Lib.hid hr
  have HPR := Lib.hid hrow
  have HFR : Hid (∀ p ∈ px, 0 ≤ fR ps b p.toNat ∧ fR ps b p.toNat ≤ 4000000) := fun p hp => fR_range hz hb (by have := hr p hp; omega)
  have HBR : Hid (∀ p ∈ px, 0 ≤ b p.toNat ∧ b p.toNat ≤ 4) := fun p hp => validB_iff.1 hb _ (by have := hr p hp; omega)
  have HRR : Hid (∀ p ∈ px, 0 ≤ resv ps p.toNat ∧ resv ps p.toNat ≤ 1000000) := fun p hp => resv_range hz (by have := hr p hp; omega)
  have HN : Hid (ps.length ≤ 6) := hn.2.1
  have e1 : (w.alloc (.cells #[.slice (some ⟨b1, o1, none⟩) ps.length c1, v2, v3, v4] 48)).heap.size = w.heap.size + 1 := World.size_alloc _ _
  have e2 : ((w.alloc (.cells #[.slice (some ⟨b1, o1, none⟩) ps.length c1, v2, v3, v4] 48)).alloc (.cells #[.string nm, .slice Ap px.length cp] 113)).heap.size = w.heap.size + 2 := by rw [World.size_alloc, World.size_alloc]
  have q1 := ((Blk.new w 48 #[.slice (some ⟨b1, o1, none⟩) ps.length c1, v2, v3, v4]).alloc (.cells #[.string nm, .slice Ap px.length cp] 113)).alloc (.cells #[.int .i64 (b 0), .int .i64 (b 1), .int .i64 (b 2), .int .i64 (b 3), .int .i64 (b 4), .int .i64 (b 5)] 77)
  have q2 := (Blk.new (w.alloc (.cells #[.slice (some ⟨b1, o1, none⟩) ps.length c1, v2, v3, v4] 48)) 113 #[.string nm, .slice Ap px.length cp]).alloc (.cells #[.int .i64 (b 0), .int .i64 (b 1), .int .i64 (b 2), .int .i64 (b 3), .int .i64 (b 4), .int .i64 (b 5)] 77)
  have q3 := Blk.new ((w.alloc (.cells #[.slice (some ⟨b1, o1, none⟩) ps.length c1, v2, v3, v4] 48)).alloc (.cells #[.string nm, .slice Ap px.length cp] 113)) 77 #[.int .i64 (b 0), .int .i64 (b 1), .int .i64 (b 2), .int .i64 (b 3), .int .i64 (b 4), .int .i64 (b 5)]
  rw [e1] at q2
  rw [e2] at q3
  have B0 : Hid (Below w.heap.size w (((w.alloc (.cells #[.slice (some ⟨b1, o1, none⟩) ps.length c1, v2, v3, v4] 48)).alloc (.cells #[.string nm, .slice Ap px.length cp] 113)).alloc (.cells #[.int .i64 (b 0), .int .i64 (b 1), .int .i64 (b 2), .int .i64 (b 3), .int .i64 (b 4), .int .i64 (b 5)] 77))) := ((below_new _ _).alloc (below_new _ _).size _).alloc ((below_new _ _).alloc (below_new _ _).size _).size _
  have HQ := Lib.hid (And.intro q1 (And.intro q2 q3))
  clear hs hv hrp hr hrow hps e1 e2 q1 q2 q3 e10 hn
  unfold arr
  go_enter Tryd.func64, Tryd.ntmps64
  go_wp2_with fail
  have HQ2 := HQ
  have B02 := B0
  clear HQ B0
  generalize (((w.alloc (.cells #[.slice (some ⟨b1, o1, none⟩) ps.length c1, v2, v3, v4] 48)).alloc (.cells #[.string nm, .slice Ap px.length cp] 113)).alloc (.cells #[.int .i64 (b 0), .int .i64 (b 1), .int .i64 (b 2), .int .i64 (b 3), .int .i64 (b 4), .int .i64 (b 5)] 77)) = W at *
  go_loopw [10, 8, 9] (fun iv sv uv wr => ∃ k : Nat, k ≤ px.length ∧ iv = .int .i64 (k : Int) ∧ sv = .int .i64 (lsum (fR ps b) px k) ∧ uv = .int .i64 (lsum b px k) ∧ Hid (Below W.heap.size W wr)) (fun iv _ _ _ => px.length - (intOf iv).toNat)
  case atStart => exact ⟨0, Nat.zero_le _, rfl, rfl, rfl, Below.refl _ _⟩
  case round =>
    obtain ⟨k, hk, rfl, rfl, rfl, HB⟩ := hrel
    have hk0 : (0 : Int) ≤ (k : Int) := by omega
    have hk5 : (k : Int) ≤ 1000 := by omega
    have c4 := (HQ2.out.1.below' HB.out).c4
    have c2 := (HQ2.out.2.1.below' HB.out).c2
    have hs1 := lsum_range (f := fR ps b) (M := 4000000) (by omega) HFR.out k hk
    have hs2 := lsum_range (f := b) (M := 4) (by omega) HBR.out k hk
    have HLS := Lib.hid (fun (h : k < px.length) => (lsum_succ (f := fR ps b) h))
    have HLU := Lib.hid (fun (h : k < px.length) => (lsum_succ (f := b) h))
    have HLW : Hid (k = px.length → listS (fR ps b) px = lsum (fR ps b) px k ∧ listS (fW ps b) px = lsum (fR ps b) px k + lsum b px k) := by
      rintro rfl
      rw [lsum_all, lsum_all, fW_eq, listS_add]
      exact ⟨rfl, rfl⟩
    obtain ⟨s, hs⟩ : ∃ s, s = lsum (fR ps b) px k := ⟨_, rfl⟩
    obtain ⟨u, hu⟩ : ∃ u, u = lsum b px k := ⟨_, rfl⟩
    rw [← hs] at HLS HLW hs1 ⊢
    rw [← hu] at HLU HLW hs2 ⊢
    have s0 : 0 ≤ s := hs1.1
    have s1 : s ≤ 4000000000 := by omega
    have u0 : 0 ≤ u := hs2.1
    have u1 : u ≤ 4000 := by omega
    clear hs1 hs2 hs hu
    by_cases hkn : k < px.length
    · have hd1 : decide (k < px.length) = true := decide_eq_true hkn
      have hd2 : decide ((k : Int) < (px.length : Int)) = true := decide_eq_true (by omega)
      have hkn1 : (k : Int) < (px.length : Int) := by omega
      obtain ⟨bp, op, e1, hbp, hcp⟩ := HR.out (by omega)
      subst e1
      have hmem : px[k] ∈ px := List.getElem_mem hkn
      have hrg := HRG.out _ hmem
      have hbr := HBR.out _ hmem
      have hrr := HRR.out _ hmem
      have hfr := HFR.out _ hmem
      have hls := HLS.out hkn
      have hlu := HLU.out hkn
      have ct : wr.cell? ⟨bp, op + k, none⟩ = some (.int .i64 px[k]) := ((HB.out).cell (p := ⟨bp, op + k, none⟩) (Nat.lt_of_lt_of_le hbp B02.out.size)).trans ((B02.out.cell (p := ⟨bp, op + k, none⟩) hbp).trans (hcp k _ (by simp [hkn])))
      generalize px[k] = p at *
      obtain ⟨q, rfl⟩ : ∃ q : Nat, p = (q : Int) := ⟨p.toNat, by omega⟩
      have hqn : q < ps.length := by omega
      have hq6 : q < 6 := by have := HN.out; omega
      have hqi : (q : Int) < 6 := by omega
      have hq0 : (0 : Int) ≤ (q : Int) := by omega
      have hqn1 : (q : Int) < (ps.length : Int) := by omega
      simp only [Int.toNat_natCast] at hbr hrr hfr hls hlu
      have cb := six_at (HQ2.out.2.2.below' HB.out) q hq6
      have cp1 : wr.cell? ⟨b1, o1 + q * 5 + 2, none⟩ = some (.int .i64 (resv ps q)) := by
        have := ((HPR.out.below hb1 B02.out).below (Nat.lt_of_lt_of_le hb1 B02.out.size) HB.out).at_ q hqn
        rw [this.2.2.1]
        unfold resv
        rw [getD_prod ps q hqn]
      unfold fR at hls hfr
      generalize resv ps q = r at *
      generalize b q = y at *
      have wp : IntKind.i64.wrap (y * r) = y * r := IntWalk.i64_in _ (by omega)
      have ws : IntKind.i64.wrap (s + y * r) = s + y * r := IntWalk.i64_in _ (by omega)
      have HLS2 := Lib.hid hls
      have HLU2 := Lib.hid hlu
      clear hcp hbp hrg hls hlu hmem HLS HLU HLW
      go_wp2_with fail
      go_quiet (fail)
      go_wp2_with fail
      go_roundw
      case rel => exact ⟨k + 1, hkn, by go_num, by rw [show lsum (fR ps b) px (k + 1) = s + y * r from HLS2.out], by rw [HLU2.out], chain0 HB.out (drewN_below _ _)⟩
      case measure => simp [intOf]; omega
    · obtain rfl : k = px.length := by omega
      have hd1 : decide (px.length < px.length) = false := decide_eq_false (Nat.lt_irrefl _)
      have hd2 : decide ((px.length : Int) < (px.length : Int)) = false := decide_eq_false (Int.lt_irrefl _)
      have HE := Lib.hid (HLW.out rfl)
      have wx : IntKind.i64.wrap (s + u) = s + u := IntWalk.i64_in _ (by omega)
      clear HLS HLU HLW
      go_wp2_with fail
      go_ret2
      refine ⟨?_, chain0 B02.out HB.out⟩
      rw [HE.out.1, HE.out.2]
      first | rfl | (congr 4; omega) | (simp only [Int.min_def]; congr 4; split <;> split <;> omega)
end Go.Proofs.YtfopmaeaclbknaaDoor.Pr
namespace Go.Proofs.YtfopmaeaclbknaaDoor.AmT
open Go.ChangeShapes Go.WideShapes Go.ChangeAt Go.RowKit Go.Proofs.YtfopmaeaclbknaaDoor.Am

abbrev laid3 : List (String × DataW Unit) := [("math/bits.deBruijn32tab", Rows.laid_math_bits_deBruijn32tab), ("math/bits.deBruijn64tab", Rows.laid_math_bits_deBruijn64tab), ("internal/strconv.uint64pow10", Rows.laid_internal_strconv_uint64pow10)]

def VarReads (P : Program) (w : World) (n : String) (d : DataW Unit) : Prop :=
  ∃ g t cs fuel p, P.globalNamed n = some g ∧ (P.globals[g]?).map (·.type) = some t ∧ w.var? P n = some cs ∧ DataW.trod (fun _ => ()) P w 0 (fun _ => true) false fuel t cs.toList = some (d, p)
theorem vars_read {P : Program} {w : World} : ∀ {l : List (String × DataW Unit)} {ps : List MemPlace}, DataW.LaidVars P w l ps → ∀ n d, (n, d) ∈ l → VarReads P w n d
  | [], _, _, _, _, hm => by cases hm
  | (n', d') :: r, ps, h, n, d, hm => by
    obtain ⟨g, t, cs, fuel, p, q, h1, h2, h3, h4, h5, _⟩ := h
    rcases List.mem_cons.1 hm with e | e
    · cases e
      exact ⟨g, t, cs, fuel, p, h1, h2, h3, h4⟩
    · exact vars_read h5 n d e
theorem tab_eq : (Rows.laid_internal_strconv_uint64pow10 : DataW Unit) = Lib.tabData .u64 Lib.pow10Tab := by kernel_rfl
theorem ty_tab : ∃ t e, (Tryd.prog.globals[0]?).map (·.type) = some t ∧ Tryd.prog.underlying t = some (.array 20 e) ∧ Tryd.prog.underlying e = some (.int .u64) ∧ Tryd.prog.cellsOf e = 1 ∧ Tryd.prog.cellsOf t = 20 := ⟨182, 90, by kernel_rfl, by kernel_rfl, by kernel_rfl, by kernel_rfl, by kernel_rfl⟩
theorem g_tab : Tryd.prog.globalNamed "internal/strconv.uint64pow10" = some 0 := by kernel_rfl
theorem tab_of {W : World} (h : laidMetH Tryd.prog laid3 W) : Tab W := by
  rw [MakeChecks.laidMetH_plain _ _ _ (by kernel_rfl)] at h
  obtain ⟨ps, hv, _⟩ := h
  obtain ⟨g, t, cs, fuel, p, hg, ht, hvar, hd⟩ := vars_read hv "internal/strconv.uint64pow10" Rows.laid_internal_strconv_uint64pow10 (by simp)
  obtain ⟨t', e, k1, k2, k3, k4, k5⟩ := ty_tab
  obtain rfl := Option.some.inj (g_tab.symm.trans hg)
  obtain rfl := Option.some.inj (k1.symm.trans ht)
  rw [tab_eq] at hd
  show Lib.TabIs _ _ _ _ _
  unfold Lib.TabIs
  rw [hvar, ← Lib.cells_of_tab k2 k3 k4 k5 hd]
end Go.Proofs.YtfopmaeaclbknaaDoor.AmT
namespace Go.Proofs.YtfopmaeaclbknaaDoor.Pr
open Go.ChangeShapes Go.WideShapes Go.ChangeAt Go.RowKit Go.Maps Go.WideMaps Gn Cat Lex So
set_option linter.unusedVariables false
set_option linter.unusedSimpArgs false
theorem flat_set {T : Type} {K : Nat} {c : T → List Value} (hc : ∀ t, (c t).length = K) : ∀ (L : List T) (i r : Nat) (hi : i < L.length), r < K → ∀ (u : Value) (t' : T), (c L[i]).set r u = c t' → (L.flatMap c).set (i * K + r) u = (L.set i t').flatMap c
  | t :: L, 0, r, hi, hr, u, t', ht => by
    have ht' : (c t).set r u = c t' := ht
    rw [List.flatMap_cons, Nat.zero_mul, Nat.zero_add, List.set_append_left _ _ (by rw [hc]; exact hr), ht']
    rfl
  | t :: L, i + 1, r, hi, hr, u, t', ht => by
    have hi' : i < L.length := by simpa using hi
    have e : (i + 1) * K + r - K = i * K + r := by rw [Nat.succ_mul]; omega
    rw [List.flatMap_cons, List.set_append_right _ _ (by rw [hc, Nat.succ_mul]; omega), hc, e, flat_set hc L i r hi' hr u t' ht]
    rfl
theorem map_range_set {T : Type} (m i : Nat) (f : Nat → T) (x : T) : ((List.range m).map f).set i x = (List.range m).map fun j => if j = i then x else f j := by
  refine List.ext_getElem (by simp) fun j h1 h2 => ?_
  simp only [List.getElem_set, List.getElem_map, List.getElem_range]
  by_cases e : i = j
  · rw [if_pos e, if_pos e.symm]
  · rw [if_neg e, if_neg fun h => e h.symm]
def shrL (m : Nat) (S R N : Nat → Int) : List Shr := (List.range m).map fun i => ⟨S i, R i, N i⟩
theorem shrL_len {m : Nat} {S R N : Nat → Int} : (shrL m S R N).length = m := by simp [shrL]
theorem shrL_at {m : Nat} {S R N : Nat → Int} {i : Nat} (h : i < (shrL m S R N).length) : (shrL m S R N)[i] = ⟨S i, R i, N i⟩ := by simp [shrL]
def shrA (m : Nat) (S R N : Nat → Int) : Array Value := ((shrL m S R N).flatMap Shr.cells).toArray
def intA (m : Nat) (f : Nat → Int) : Array Value := ((List.range m).map fun i => Value.int .i64 (f i)).toArray
theorem shrA_get {m : Nat} {S R N : Nat → Int} {i : Nat} (h : i < m) : (shrA m S R N)[i * 3]? = some (.int .i64 (S i)) ∧ (shrA m S R N)[i * 3 + 1]? = some (.int .i64 (R i)) ∧ (shrA m S R N)[i * 3 + 2]? = some (.int .i64 (N i)) := by
  have hl : i < (shrL m S R N).length := by rw [shrL_len]; exact h
  have e := fun r hr => flat_get (c := Shr.cells) shr_len (shrL m S R N) i r hl hr
  unfold shrA
  simp only [List.getElem?_toArray]
  have e0 := e 0 (by omega)
  rw [Nat.add_zero] at e0
  rw [e0, e 1 (by omega), e 2 (by omega), shrL_at]
  exact ⟨rfl, rfl, rfl⟩
theorem shrA_set {m : Nat} {S R N : Nat → Int} {i r : Nat} (h : i < m) (hr : r < 3) (u : Value) (t : Shr) (ht : (Shr.cells ⟨S i, R i, N i⟩).set r u = t.cells) : (shrA m S R N).setIfInBounds (i * 3 + r) u = (((List.range m).map fun j => if j = i then t else ⟨S j, R j, N j⟩).flatMap Shr.cells).toArray := by
  have hl : i < (shrL m S R N).length := by rw [shrL_len]; exact h
  unfold shrA
  rw [List.setIfInBounds_toArray, flat_set shr_len _ i r hl hr u t (by rw [shrL_at]; exact ht)]
  unfold shrL
  rw [map_range_set]
theorem shrA_set1 {m : Nat} {S R N : Nat → Int} {i : Nat} (h : i < m) (v : Int) : (shrA m S R N).setIfInBounds (i * 3 + 1) (.int .i64 v) = shrA m S (upd R i v) N := by
  rw [shrA_set h (by omega) _ ⟨S i, v, N i⟩ rfl]
  unfold shrA shrL
  congr 2
  refine List.map_congr_left fun j _ => ?_
  unfold upd
  by_cases e : j = i
  · subst e; simp
  · simp [e]
theorem shrA_set2 {m : Nat} {S R N : Nat → Int} {i : Nat} (h : i < m) (v : Int) : (shrA m S R N).setIfInBounds (i * 3 + 2) (.int .i64 v) = shrA m S R (upd N i v) := by
  rw [shrA_set h (by omega) _ ⟨S i, R i, v⟩ rfl]
  unfold shrA shrL
  congr 2
  refine List.map_congr_left fun j _ => ?_
  unfold upd
  by_cases e : j = i
  · subst e; simp
  · simp [e]
theorem shrA_set0 {m : Nat} {S R N : Nat → Int} {i : Nat} (h : i < m) (v : Int) : (shrA m S R N).setIfInBounds (i * 3) (.int .i64 v) = shrA m (upd S i v) R N := by
  have := shrA_set (S := S) (R := R) (N := N) (r := 0) h (by omega) (.int .i64 v) ⟨v, R i, N i⟩ rfl
  rw [Nat.add_zero] at this
  rw [this]
  unfold shrA shrL
  congr 2
  refine List.map_congr_left fun j _ => ?_
  unfold upd
  by_cases e : j = i
  · subst e; simp
  · simp [e]
theorem intA_get {m : Nat} {f : Nat → Int} {i : Nat} (h : i < m) : (intA m f)[i]? = some (.int .i64 (f i)) := by simp [intA, h]
theorem intA_set {m : Nat} {f : Nat → Int} {i : Nat} (v : Int) : (intA m f).setIfInBounds i (.int .i64 v) = intA m (upd f i v) := by
  unfold intA
  rw [List.setIfInBounds_toArray, map_range_set]
  congr 1
  refine List.map_congr_left fun j _ => ?_
  unfold upd
  by_cases e : j = i
  · subst e; simp
  · simp [e]
theorem intA_made (m : Nat) : madeCells #[Value.int .i64 0] m = intA m fun _ => 0 := by
  apply Array.ext_getElem?
  intro j
  by_cases hj : j < m <;> simp [madeCells, intA, Nat.mod_one, hj]
theorem shrA_made0 : madeCells #[Value.int .i64 0, Value.int .i64 0, Value.int .i64 0] (0 * 3) = shrA 0 (fun _ => 0) (fun _ => 0) (fun _ => 0) := by kernel_rfl
theorem shrA_made1 : madeCells #[Value.int .i64 0, Value.int .i64 0, Value.int .i64 0] (1 * 3) = shrA 1 (fun _ => 0) (fun _ => 0) (fun _ => 0) := by kernel_rfl
theorem shrA_made2 : madeCells #[Value.int .i64 0, Value.int .i64 0, Value.int .i64 0] (2 * 3) = shrA 2 (fun _ => 0) (fun _ => 0) (fun _ => 0) := by kernel_rfl
theorem shrA_made3 : madeCells #[Value.int .i64 0, Value.int .i64 0, Value.int .i64 0] (3 * 3) = shrA 3 (fun _ => 0) (fun _ => 0) (fun _ => 0) := by kernel_rfl
theorem shrA_made4 : madeCells #[Value.int .i64 0, Value.int .i64 0, Value.int .i64 0] (4 * 3) = shrA 4 (fun _ => 0) (fun _ => 0) (fun _ => 0) := by kernel_rfl
theorem shrA_made5 : madeCells #[Value.int .i64 0, Value.int .i64 0, Value.int .i64 0] (5 * 3) = shrA 5 (fun _ => 0) (fun _ => 0) (fun _ => 0) := by kernel_rfl
theorem shrA_made6 : madeCells #[Value.int .i64 0, Value.int .i64 0, Value.int .i64 0] (6 * 3) = shrA 6 (fun _ => 0) (fun _ => 0) (fun _ => 0) := by kernel_rfl
theorem shrA_made (m : Nat) (h : m ≤ 6) : madeCells #[Value.int .i64 0, Value.int .i64 0, Value.int .i64 0] (m * 3) = shrA m (fun _ => 0) (fun _ => 0) fun _ => 0 := by
  match m, h with
  | 0, _ => exact shrA_made0
  | 1, _ => exact shrA_made1
  | 2, _ => exact shrA_made2
  | 3, _ => exact shrA_made3
  | 4, _ => exact shrA_made4
  | 5, _ => exact shrA_made5
  | 6, _ => exact shrA_made6
theorem run_make_shr {P : Program} (t e : TypeId) (i : TypeInfo) (ht : P.underlying t = some (.slice e)) (hi : P.info? e = some i) (hz : i.zero = some (.agg #[.int .i64 0, .int .i64 0, .int .i64 0])) (hs : i.size = 3) (hb : i.bytes = 24) (m : Nat) (hm : m ≤ 6) (w : World) :
    (Instr.makeSlice t (.int .i64 (m : Int)) (.int .i64 (m : Int))).run P w = .ok (.slice (some ⟨w.heap.size, 0, none⟩) m m) (w.alloc (.cells (shrA m (fun _ => 0) (fun _ => 0) fun _ => 0) e)) := by
  have hr := run_make (P := P) w t e i _ ht hi hz .i64 .i64 m m (by omega) (by omega) (by rw [hb]; omega) (by omega)
  simp only [Int.toNat_natCast, hs] at hr
  rw [show (Value.agg #[Value.int .i64 0, Value.int .i64 0, Value.int .i64 0]).cells = #[Value.int .i64 0, Value.int .i64 0, Value.int .i64 0] from rfl, shrA_made m hm] at hr
  exact hr
theorem is_of_blk {w : World} {g m : Nat} {t : TypeId} {f : Nat → Int} (h : Blk w g t (intA m f)) (hm : m ≤ maxLen) : IS w (.slice (some ⟨g, 0, none⟩) m m) ((List.range m).map f) := by
  have e : ((List.range m).map f).length = m := by simp
  refine ⟨by simp, some ⟨g, 0, none⟩, m, by rw [e], by rw [e]; exact Nat.le_refl _, hm, fun _ => ⟨g, 0, rfl, h.lt, fun j u hu => ?_⟩⟩
  rw [Nat.zero_add, h.cell]
  unfold intA
  simpa using hu
theorem shrs_of_blk {w : World} {g m : Nat} {t : TypeId} {S R N : Nat → Int} (h : Blk w g t (shrA m S R N)) (hm : m ≤ maxLen) : ShrS w (.slice (some ⟨g, 0, none⟩) m m) (shrL m S R N) := by
  refine ⟨by rw [flat_len shr_len], some ⟨g, 0, none⟩, m, by rw [shrL_len], by rw [shrL_len]; exact Nat.le_refl _, hm, fun _ => ⟨g, 0, rfl, h.lt, fun j u hu => ?_⟩⟩
  rw [Nat.zero_add, h.cell]
  unfold shrA
  simpa using hu
/-- the first error of a list of invoices -/
def divErr (ps : List Prod) (nb : Nat) : List Inv → Int
  | [] => 0
  | v :: r => if invOk ps nb v then (if 1000000 < v.due then 4 else divErr ps nb r) else 2
theorem divErr_drop {ps : List Prod} {nb : Nat} {vs : List Inv} {k : Nat} (h : k < vs.length) : divErr ps nb (vs.drop k) = if invOk ps nb vs[k] then (if 1000000 < vs[k].due then 4 else divErr ps nb (vs.drop (k + 1))) else 2 := by
  rw [List.drop_eq_getElem_cons h, divErr]
theorem divErr_end {ps : List Prod} {nb : Nat} {vs : List Inv} : divErr ps nb (vs.drop vs.length) = 0 := by rw [List.drop_length, divErr]
/-- the net part of seller i in an invoice -/
def netP (o : Own) (ps : List Prod) (m : Nat) (v : Inv) (i : Nat) : Int := (((shareL v.net.toNat (wgts o ps v.want m)).getD i 0 : Nat) : Int)
def gotR (o : Own) (ps : List Prod) (vs : List Inv) (i : Nat) : Int := (vs.map fun v => part o i (fR ps v.want) ps.length).sum
def gotN (o : Own) (ps : List Prod) (m : Nat) (vs : List Inv) (i : Nat) : Int := (vs.map fun v => netP o ps m v i).sum
theorem gotR_succ {o : Own} {ps : List Prod} {vs : List Inv} {k i : Nat} (h : k < vs.length) : gotR o ps (vs.take (k + 1)) i = gotR o ps (vs.take k) i + part o i (fR ps vs[k].want) ps.length := by
  unfold gotR
  rw [List.take_succ_eq_append_getElem h, List.map_append, List.sum_append]
  simp only [List.map_cons, List.map_nil, List.sum_cons, List.sum_nil, Int.add_zero]
theorem gotN_succ {o : Own} {ps : List Prod} {m : Nat} {vs : List Inv} {k i : Nat} (h : k < vs.length) : gotN o ps m (vs.take (k + 1)) i = gotN o ps m (vs.take k) i + netP o ps m vs[k] i := by
  unfold gotN
  rw [List.take_succ_eq_append_getElem h, List.map_append, List.sum_append]
  simp only [List.map_cons, List.map_nil, List.sum_cons, List.sum_nil, Int.add_zero]
/-- what Divide answers -/
def divR (ps : List Prod) (nb : Nat) (l : List Sel) (vs : List Inv) : Except Int (List Shr) :=
  match selR ps l with
  | .error e => .error e
  | .ok o => if divErr ps nb vs = 0 then .ok (shrL l.length (fun i => (i : Int)) (gotR o ps vs) (gotN o ps l.length vs)) else .error (divErr ps nb vs)
def DivPost (R : Except Int (List Shr)) (w : World) (e : Ending) (w' : World) : Prop :=
  match R with
  | .error x => e = .returned (.tuple #[.slice none 0 0, .int .i64 x]) ∧ Below w.heap.size w w'
  | .ok L => ∃ v', e = .returned (.tuple #[v', .int .i64 0]) ∧ ShrS w' v' L ∧ Below w.heap.size w w'
theorem DivPost.err {w w' : World} {R : Except Int (List Shr)} {x : Int} (hR : R = .error x) (b : Below w.heap.size w w') : DivPost R w (.returned (.tuple #[.slice none 0 0, .int .i64 x])) w' := by subst hR; exact ⟨rfl, b⟩
theorem DivPost.ok {w w' : World} {R : Except Int (List Shr)} {L : List Shr} {v : Value} (hR : R = .ok L) (hm : ShrS w' v L) (bl : Below w.heap.size w w') : DivPost R w (.returned (.tuple #[v, .int .i64 0])) w' := by subst hR; exact ⟨v, rfl, hm, bl⟩
/-- what a valid invoice says -/
theorem invOk_iff {ps : List Prod} {nb : Nat} {x : Inv} (h : invOk ps nb x = true) : eq6 x.want zero6 = false ∧ rfitsB x.want ps = true ∧ x.reserve = sumE Prod.reserve x.want ps ∧ 0 ≤ x.net ∧ x.net ≤ 1000000 ∧ x.due = x.reserve + x.net ∧ 0 ≤ x.bidder ∧ x.bidder < (nb : Int) := by
  unfold invOk at h
  simp only [Bool.and_eq_true, decide_eq_true_eq, Bool.not_eq_true'] at h
  exact ⟨h.2.2.1, h.2.2.2.1, h.2.2.2.2.1, h.2.2.2.2.2.1, h.2.2.2.2.2.2.1, h.2.2.2.2.2.2.2, h.1, h.2.1⟩
theorem rfits_valid {b : Nat → Int} {ps : List Prod} (h : rfitsB b ps = true) : checkE ps = 0 ∧ validB b = true ∧ tailB b ps.length = true := by
  unfold rfitsB fitsB at h
  simpa using h
theorem OwMap.setCell {w : World} {b n : Nat} {o : Own} (h : OwMap w b n o) {a : Addr} (ha : b ≠ a.block) (u : Value) : OwMap (w.setCell a u) b n o := by
  obtain ⟨D, h1, h2⟩ := h
  exact ⟨D, h1.setCell ha u, h2⟩
theorem netP_range {o : Own} {ps : List Prod} {m : Nat} {v : Inv} (i : Nat) (hS : 0 < sumN (wgts o ps v.want m) (wgts o ps v.want m).length) : 0 ≤ netP o ps m v i ∧ netP o ps m v i ≤ v.net.toNat := by
  unfold netP
  refine ⟨by omega, ?_⟩
  by_cases h : i < (shareL v.net.toNat (wgts o ps v.want m)).length
  · have := shares_le (ordL_ok v.net.toNat (wgts o ps v.want m) _) hS rfl (i := i) h
    have e : (shareL v.net.toNat (wgts o ps v.want m)).getD i 0 = (shareL v.net.toNat (wgts o ps v.want m))[i] := by simp [List.getD, h]
    rw [e]
    have h2 : (shareL v.net.toNat (wgts o ps v.want m))[i] ≤ v.net.toNat := this
    omega
  · have e : (shareL v.net.toNat (wgts o ps v.want m)).getD i 0 = 0 := by simp [List.getD, List.getElem?_eq_none (Nat.le_of_not_lt h)]
    rw [e]
    omega
end Go.Proofs.YtfopmaeaclbknaaDoor.Pr
