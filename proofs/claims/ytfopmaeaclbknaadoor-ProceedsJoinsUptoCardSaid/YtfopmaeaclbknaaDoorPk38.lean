/- Contracts of Divide, whole, Fee and Same. Printed by gen_pra.py. Contracts of proceeds.line, settle.sum and Revenue, and of the reference's Same. Printed by gen_prb.py. -/
import Derived.Test.YtfopmaeaclbknaaDoorPk34
import Derived.Test.YtfopmaeaclbknaaDoorPk37
import Derived.Test.YtfopmaeaclbknaaDoorPk25
import Derived.Test.YtfopmaeaclbknaaDoorPk21
import Derived.Lib.ItoaLen
namespace Go.Proofs.YtfopmaeaclbknaaDoor.Pr
open Go.ChangeShapes Go.WideShapes Go.ChangeAt Go.RowKit Go.Maps Go.WideMaps Gn Cat Lex So
set_option linter.unusedVariables false
set_option linter.unusedSimpArgs false
theorem takeP_ne {n i : Nat} : ∀ (ps : List Int) (o : Own) {x : Int}, takeP n i ps o = .error x → x ≠ 0
  | [], o, x, h => by cases h
  | p :: r, o, x, h => by
    rw [takeP] at h
    split at h
    · injection h with h; omega
    · split at h
      · injection h with h; omega
      · exact takeP_ne r _ h
theorem ownGo_ne {n : Nat} {l : List Sel} : ∀ (r : List Sel) (i : Nat) (o : Own) {x : Int}, ownGo n l r i o = .error x → x ≠ 0
  | [], i, o, x, h => by cases h
  | y :: r, i, o, x, h => by
    rw [ownGo] at h
    split at h
    · split at h
      · injection h with h; omega
      · cases ht : takeP n i y.ps o with
        | error e => rw [ht] at h; injection h with h; rw [← h]; exact takeP_ne _ _ ht
        | ok o1 => rw [ht] at h; exact ownGo_ne r _ _ h
    · injection h with h; omega
theorem selR_ne {ps : List Prod} {l : List Sel} {x : Int} (h : selR ps l = .error x) : x ≠ 0 := by
  unfold selR at h
  split at h
  · split at h
    · injection h with h; omega
    · split at h
      · injection h with h; omega
      · unfold ownR at h
        cases hg : ownGo ps.length l l 0 fun _ => none with
        | error e => rw [hg] at h; injection h with h; rw [← h]; exact ownGo_ne _ _ _ hg
        | ok o =>
          rw [hg] at h
          unfold ownF at h
          split at h
          · rename_i e1; cases e1
          · split at h
            · cases h
            · injection h with h; omega
  · rename_i hne
    injection h with h
    rw [← h]; exact hne
theorem divR_err {ps : List Prod} {nb : Nat} {l : List Sel} {vs : List Inv} {x : Int} (h : selR ps l = .error x) : divR ps nb l vs = .error x := by unfold divR; rw [h]
theorem divR_ok {ps : List Prod} {nb : Nat} {l : List Sel} {vs : List Inv} {o : Own} (h : selR ps l = .ok o) : divR ps nb l vs = if divErr ps nb vs = 0 then .ok (shrL l.length (fun i => (i : Int)) (gotR o ps vs) (gotN o ps l.length vs)) else .error (divErr ps nb vs) := by unfold divR; rw [h]
theorem divide_any (ps : List Prod) (nb : Nat) (l : List Sel) (vs : List Inv) (v1 v v3 v4 vv : Value) (A2 : Option Addr) (c2 : Nat) (w : World) (hs : SetP w v1 ps) (hl : SellP w v l) (hv : InvS w vv vs) (hq : vs.length ≤ 100) : Calls Tryd.prog 31 #[.agg #[v1, .slice A2 nb c2, v3, v4], v, vv] w (DivPost (divR ps nb l vs) w) := by
  obtain ⟨A1, c1, rfl, _⟩ := ps_cases hs.sl
  obtain ⟨AS, cS, rfl, _⟩ := sl_parts hl.sl
  obtain ⟨AV, cV, rfl, _⟩ := sl_parts hv
  have CC := Lib.hid (fun W (b : Below w.heap.size w W) => check_any ps l (.slice A1 ps.length c1) (.slice A2 nb c2) v3 v4 (.slice AS l.length cS) W (hs.keep b) (hl.keep b))
  cases hR : selR ps l with
  | error x =>
    have hx := selR_ne hR
    have q1 : (x != 0) = true := by simpa using hx
    have HD := Lib.hid (divR_err (nb := nb) (vs := vs) hR)
    have CX : Hid (∀ W, Below w.heap.size w W → Calls Tryd.prog 61 #[.agg #[.slice A1 ps.length c1, .slice A2 nb c2, v3, v4], .slice AS l.length cS] W fun e w' => e = .returned (.tuple #[.map none, .int .i64 x]) ∧ Below W.heap.size W w') := fun W b => by
      have h := CC.out W b
      rw [hR] at h
      exact h
    have BX := Lib.hid (below_new w (.cells #[.slice A1 ps.length c1, .slice A2 nb c2, v3, v4] 48))
    clear hx hR hs hl hv hq CC
    go_enter Tryd.func31, Tryd.ntmps31
    go_wp2_with fail
    refine (CX.out _ BX.out).mono ?_
    rintro e w1 ⟨rfl, d1⟩
    have B1 := Lib.hid (chain0 BX.out d1)
    clear d1
    go_wp2_with fail
    go_ret2
    exact DivPost.err HD.out B1.out
  | ok o =>
    obtain ⟨hz, h0, h6, hR2⟩ := selR_ok hR
    rw [divR_ok hR]
    refine divide_some ps nb l vs A1 A2 AS AV c1 c2 cS cV v3 v4 o w hs hv hq hz (ownR_ok hR2) h0 h6 fun W b => ?_
    have h := CC.out W b
    rw [hR] at h
    exact h
theorem rdivide_any (ps : List Prod) (nb : Nat) (l : List Sel) (vs : List Inv) (v1 v v3 v4 vv : Value) (A2 : Option Addr) (c2 : Nat) (w : World) (hs : SetP w v1 ps) (hl : SellP w v l) (hv : InvS w vv vs) (hq : vs.length ≤ 100) : Calls Tryd.prog 32 #[.agg #[v1, .slice A2 nb c2, v3, v4], v, vv] w (DivPost (divR ps nb l vs) w) := by
  obtain ⟨A1, c1, rfl, _⟩ := ps_cases hs.sl
  obtain ⟨AS, cS, rfl, _⟩ := sl_parts hl.sl
  obtain ⟨AV, cV, rfl, _⟩ := sl_parts hv
  have CC := Lib.hid (fun W (b : Below w.heap.size w W) => rselCheck_any ps l (.slice A1 ps.length c1) (.slice A2 nb c2) v3 v4 (.slice AS l.length cS) W (hs.keep b) (hl.keep b))
  cases hR : selR ps l with
  | error x =>
    have hx := selR_ne hR
    have q1 : (x != 0) = true := by simpa using hx
    have HD := Lib.hid (divR_err (nb := nb) (vs := vs) hR)
    have CX : Hid (∀ W, Below w.heap.size w W → Calls Tryd.prog 38 #[.agg #[.slice A1 ps.length c1, .slice A2 nb c2, v3, v4], .slice AS l.length cS] W fun e w' => e = .returned (.int .i64 x) ∧ Below W.heap.size W w') := fun W b => by
      have h := CC.out W b
      rw [hR] at h
      exact h
    have BX := Lib.hid (below_new w (.cells #[.slice A1 ps.length c1, .slice A2 nb c2, v3, v4] 48))
    clear hx hR hs hl hv hq CC
    go_enter Tryd.func32, Tryd.ntmps32
    go_wp2_with fail
    refine (CX.out _ BX.out).mono ?_
    rintro e w1 ⟨rfl, d1⟩
    have B1 := Lib.hid (chain0 BX.out d1)
    clear d1
    go_wp2_with fail
    go_ret2
    exact DivPost.err HD.out B1.out
  | ok o =>
    obtain ⟨hz, h0, h6, hR2⟩ := selR_ok hR
    rw [divR_ok hR]
    refine rdivide_some ps nb l vs A1 A2 AS AV c1 c2 cS cV v3 v4 o w hs hl hv hq hz (ownR_ok hR2) h0 h6 fun W b => ?_
    have h := CC.out W b
    rw [hR] at h
    exact h
/-- what Fee answers -/
def feeV (d p : Int) : Value := if 0 ≤ d ∧ d ≤ 1000000 ∧ 0 ≤ p ∧ p ≤ 100 then .tuple #[.int .i64 ((d * p).tdiv 100), .int .i64 (d - (d * p).tdiv 100), .int .i64 0] else .tuple #[.int .i64 0, .int .i64 0, .int .i64 4]
theorem fee_any (d p : Int) (w : World) : Calls Tryd.prog 39 #[.int .i64 d, .int .i64 p] w fun e w' => e = .returned (feeV d p) ∧ Below w.heap.size w w' := by
  have HV : Hid (∀ r, feeV d p = r → feeV d p = r) := fun _ h => h
  have HN : Hid (¬ (0 ≤ d ∧ d ≤ 1000000 ∧ 0 ≤ p ∧ p ≤ 100) → feeV d p = .tuple #[.int .i64 0, .int .i64 0, .int .i64 4]) := fun h => by unfold feeV; rw [if_neg h]
  have HY : Hid (0 ≤ d ∧ d ≤ 1000000 ∧ 0 ≤ p ∧ p ≤ 100 → feeV d p = .tuple #[.int .i64 ((d * p).tdiv 100), .int .i64 (d - (d * p).tdiv 100), .int .i64 0]) := fun h => by unfold feeV; rw [if_pos h]
  generalize feeV d p = R at *
  have CA := Lib.hid (fun W => So.check_any d W)
  by_cases hd : 0 ≤ d ∧ d ≤ 1000000
  case neg =>
    have e4 : So.okE d = 4 := by unfold So.okE; rw [if_neg hd]
    rw [e4] at CA
    have HR := Lib.hid (HN.out (fun h => hd ⟨h.1, h.2.1⟩))
    clear hd e4 HV
    go_enter Tryd.func39, Tryd.ntmps39
    go_wp2_with fail
    refine (CA.out _).mono ?_
    rintro e w1 ⟨rfl, rfl⟩
    go_wp2_with fail
    go_ret3
    exact ⟨by rw [HR.out]; rfl, Below.refl _ _⟩
  have e4 : So.okE d = 0 := by unfold So.okE; rw [if_pos hd]
  rw [e4] at CA
  clear e4
  by_cases t0 : p < 0
  case pos =>
    have q0 : decide (p < 0) = true := decide_eq_true t0
    have HR := Lib.hid (HN.out (by omega))
    clear t0 HV
    go_enter Tryd.func39, Tryd.ntmps39
    go_wp2_with fail
    refine (CA.out _).mono ?_
    rintro e w1 ⟨rfl, rfl⟩
    go_wp2_with fail
    go_ret3
    exact ⟨by rw [HR.out]; rfl, Below.refl _ _⟩
  have q0 : decide (p < 0) = false := decide_eq_false t0
  by_cases t1 : 100 < p
  case pos =>
    have q1 : decide (100 < p) = true := decide_eq_true t1
    have HR := Lib.hid (HN.out (by omega))
    clear t1 HV
    go_enter Tryd.func39, Tryd.ntmps39
    go_wp2_with fail
    refine (CA.out _).mono ?_
    rintro e w1 ⟨rfl, rfl⟩
    go_wp2_with fail
    go_ret3
    exact ⟨by rw [HR.out]; rfl, Below.refl _ _⟩
  have q1 : decide (100 < p) = false := decide_eq_false t1
  have hp := mul_range (a := d) (b := p) (A := 1000000) (B := 100) (by omega) (by omega) (by omega) (by omega)
  have HR := Lib.hid (HY.out (by omega))
  have d0 : 0 ≤ d := by omega
  have d1 : d ≤ 1000000 := by omega
  have p0 : 0 ≤ p := by omega
  have p1 : p ≤ 100 := by omega
  have m1 : IntKind.i64.wrap (d * p) = d * p := IntWalk.i64_in _ (by omega)
  have e1 : (d * p).tdiv 100 = d * p / 100 := Int.tdiv_eq_ediv_of_nonneg hp.1
  have m2 : IntKind.i64.wrap ((d * p).tdiv 100) = (d * p).tdiv 100 := IntWalk.i64_in _ (by rw [e1]; omega)
  have m3 : IntKind.i64.wrap (d - (d * p).tdiv 100) = d - (d * p).tdiv 100 := IntWalk.i64_in _ (by rw [e1]; omega)
  clear HN HY HV e1
  go_enter Tryd.func39, Tryd.ntmps39
  go_wp2_with fail
  refine (CA.out _).mono ?_
  rintro e w1 ⟨rfl, rfl⟩
  go_wp2_with fail
  go_ret3
  exact ⟨by rw [HR.out]; rfl, Below.refl _ _⟩
theorem rfee_any (d p : Int) (w : World) : Calls Tryd.prog 40 #[.int .i64 d, .int .i64 p] w fun e w' => e = .returned (feeV d p) ∧ Below w.heap.size w w' := by
  have HV : Hid (∀ r, feeV d p = r → feeV d p = r) := fun _ h => h
  have HN : Hid (¬ (0 ≤ d ∧ d ≤ 1000000 ∧ 0 ≤ p ∧ p ≤ 100) → feeV d p = .tuple #[.int .i64 0, .int .i64 0, .int .i64 4]) := fun h => by unfold feeV; rw [if_neg h]
  have HY : Hid (0 ≤ d ∧ d ≤ 1000000 ∧ 0 ≤ p ∧ p ≤ 100 → feeV d p = .tuple #[.int .i64 ((d * p).tdiv 100), .int .i64 (d - (d * p).tdiv 100), .int .i64 0]) := fun h => by unfold feeV; rw [if_pos h]
  generalize feeV d p = R at *
  by_cases t0 : d < 0
  case pos =>
    have q0 : decide (d < 0) = true := decide_eq_true t0
    have HR := Lib.hid (HN.out (by omega))
    clear t0 HV
    go_enter Tryd.func40, Tryd.ntmps40
    go_wp2_with fail
    go_ret3
    exact ⟨by rw [HR.out]; rfl, Below.refl _ _⟩
  have q0 : decide (d < 0) = false := decide_eq_false t0
  by_cases t1 : 1000000 < d
  case pos =>
    have q1 : decide (1000000 < d) = true := decide_eq_true t1
    have HR := Lib.hid (HN.out (by omega))
    clear t1 HV
    go_enter Tryd.func40, Tryd.ntmps40
    go_wp2_with fail
    go_ret3
    exact ⟨by rw [HR.out]; rfl, Below.refl _ _⟩
  have q1 : decide (1000000 < d) = false := decide_eq_false t1
  by_cases t2 : p < 0
  case pos =>
    have q2 : decide (p < 0) = true := decide_eq_true t2
    have HR := Lib.hid (HN.out (by omega))
    clear t2 HV
    go_enter Tryd.func40, Tryd.ntmps40
    go_wp2_with fail
    go_ret3
    exact ⟨by rw [HR.out]; rfl, Below.refl _ _⟩
  have q2 : decide (p < 0) = false := decide_eq_false t2
  by_cases t3 : 100 < p
  case pos =>
    have q3 : decide (100 < p) = true := decide_eq_true t3
    have HR := Lib.hid (HN.out (by omega))
    clear t3 HV
    go_enter Tryd.func40, Tryd.ntmps40
    go_wp2_with fail
    go_ret3
    exact ⟨by rw [HR.out]; rfl, Below.refl _ _⟩
  have q3 : decide (100 < p) = false := decide_eq_false t3
  have hp := mul_range (a := d) (b := p) (A := 1000000) (B := 100) (by omega) (by omega) (by omega) (by omega)
  have HR := Lib.hid (HY.out (by omega))
  have d0 : 0 ≤ d := by omega
  have d1 : d ≤ 1000000 := by omega
  have p0 : 0 ≤ p := by omega
  have p1 : p ≤ 100 := by omega
  have m1 : IntKind.i64.wrap (d * p) = d * p := IntWalk.i64_in _ (by omega)
  have e1 : (d * p).tdiv 100 = d * p / 100 := Int.tdiv_eq_ediv_of_nonneg hp.1
  have m2 : IntKind.i64.wrap ((d * p).tdiv 100) = (d * p).tdiv 100 := IntWalk.i64_in _ (by rw [e1]; omega)
  have m3 : IntKind.i64.wrap (d - (d * p).tdiv 100) = d - (d * p).tdiv 100 := IntWalk.i64_in _ (by rw [e1]; omega)
  clear HN HY HV e1
  go_enter Tryd.func40, Tryd.ntmps40
  go_wp2_with fail
  go_ret3
  exact ⟨by rw [HR.out]; rfl, Below.refl _ _⟩
end Go.Proofs.YtfopmaeaclbknaaDoor.Pr
namespace Go.Proofs.YtfopmaeaclbknaaDoor.Pr
open Go.ChangeShapes Go.WideShapes Go.ChangeAt Go.RowKit Go.Maps Go.WideMaps Gn Cat Lex So
set_option linter.unusedVariables false
set_option linter.unusedSimpArgs false
def decS (v : Int) : ByteArray := ⟨(Lib.itoa v).toArray⟩
def I64 (v : Int) : Prop := -9223372036854775808 ≤ v ∧ v ≤ 9223372036854775807
theorem decS_size {v : Int} (h : I64 v) : (decS v).size ≤ 21 := by
  show ((Lib.itoa v).toArray).size ≤ 21
  rw [List.size_toArray]
  exact Lib.itoa_length_le v h.1 h.2
/-- a line of a word and numbers -/
def lineS (word : ByteArray) (ns : List Int) : ByteArray := ⟨(Lib.join ((word :: ns.map decS).map (·.data.toList)) (⟨#[32]⟩ : ByteArray).data.toList).toArray⟩ ++ ⟨#[10]⟩
theorem joinTail_len (s : List UInt8) : ∀ r : List (List UInt8), (∀ x ∈ r, x.length ≤ 21) → (Lib.joinTail s r).length ≤ r.length * (s.length + 21)
  | [], _ => by simp [Lib.joinTail]
  | x :: r, h => by
    have h1 := joinTail_len s r fun y hy => h y (List.mem_cons_of_mem _ hy)
    have h2 := h x (List.mem_cons_self ..)
    have e : Lib.joinTail s (x :: r) = s ++ (x ++ Lib.joinTail s r) := by simp [Lib.joinTail]
    rw [e, List.length_append, List.length_append, List.length_cons, Nat.succ_mul]
    omega
theorem line_len {word : ByteArray} {ns : List Int} (hn : ∀ v ∈ ns, I64 v) : (Lib.join ((word :: ns.map decS).map (·.data.toList)) (⟨#[32]⟩ : ByteArray).data.toList).length ≤ word.size + ns.length * 22 := by
  rw [List.map_cons, Lib.join_cons, List.length_append]
  have h := joinTail_len (⟨#[32]⟩ : ByteArray).data.toList ((ns.map decS).map (·.data.toList)) (fun x hx => by
    obtain ⟨y, hy, rfl⟩ := List.mem_map.1 hx
    obtain ⟨v, hv, rfl⟩ := List.mem_map.1 hy
    exact decS_size (hn v hv))
  rw [List.length_map, List.length_map] at h
  have e : (⟨#[32]⟩ : ByteArray).data.toList.length = 1 := rfl
  rw [e] at h
  have e2 : word.data.toList.length = word.size := rfl
  rw [e2]
  omega
theorem lineS_size {word : ByteArray} {ns : List Int} (hn : ∀ v ∈ ns, I64 v) : (lineS word ns).size ≤ word.size + ns.length * 22 + 1 := by
  unfold lineS
  rw [ByteArray.size_append]
  have h := line_len (word := word) hn
  show ((Lib.join _ _).toArray).size + 1 ≤ _
  rw [List.size_toArray]
  omega
def lstr (word : ByteArray) (ns : List Int) (k : Nat) : List Value := Cat.strs (word :: (ns.take k).map decS)
theorem lstr_succ {word : ByteArray} {ns : List Int} {k : Nat} (h : k < ns.length) : lstr word ns (k + 1) = lstr word ns k ++ [.string (decS ns[k])] := by
  unfold lstr
  rw [List.take_succ_eq_append_getElem h, List.map_append, List.map_cons, List.map_nil, ← List.cons_append]
  unfold Cat.strs
  rw [List.map_append]
  rfl
theorem lstr_all {word : ByteArray} {ns : List Int} : lstr word ns ns.length = Cat.strs (word :: ns.map decS) := by unfold lstr; rw [List.take_length]
theorem tab_keep {w w' : World} (h : Am.Tab w) (b : Below w.heap.size w w') : Am.Tab w' := Lib.tabBelow_of_tabIs h w' b
theorem fmt_any (v : Int) (w : World) (h : I64 v) (ht : Am.Tab w) : Calls Tryd.prog 50 #[.int .i64 v, .int .i64 10] w fun e w' => e = .returned (.string (decS v)) ∧ Below w.heap.size w w' := by
  refine (Tryd.strconv_FormatInt_10 v h.1 h.2 w ht).mono ?_
  rintro e w1 ⟨rfl, k, os, hw⟩
  exact ⟨rfl, by rw [hw]; exact Am.grow_below w k os⟩
set_option maxHeartbeats 4000000 in
set_option maxRecDepth 100000 in
theorem line_any (word : ByteArray) (ns : List Int) (v : Value) (w : World) (hw : word.size ≤ 100) (hn : ∀ x ∈ ns, I64 x) (hl : ns.length ≤ 10) (ht : Am.Tab w) (h : IS w v ns) : Calls Tryd.prog 67 #[.string word, v] w fun e w' => e = .returned (.string (lineS word ns)) ∧ Below w.heap.size w w' := by
  obtain ⟨j0, hj0, hy0, hy1, hy2⟩ := info_parts str_info
  obtain ⟨A, c, rfl, _, _, hc⟩ := is_cases h
  have HC := Lib.hid hc
  have HNS := Lib.hid (fun k (hk : k < ns.length) => hn _ (List.getElem_mem hk))
  have HLL := Lib.hid (line_len (word := word) hn)
  have HT := Lib.hid (fun W (b : Below w.heap.size w W) => tab_keep ht b)
  have HLEN : Hid (ns.length ≤ 10 ∧ word.size ≤ 100) := ⟨hl, hw⟩
  have hl6 : (ns.length : Int) ≤ 10 := by omega
  clear h hc hn ht hw
  go_enter Tryd.func67, Tryd.ntmps67
  go_wp2_with fail
  have HQ0 : Hid ((w.alloc (.cells #[.string word] 9)).ownsRow w.heap.size 9 1 (.slice (some ⟨w.heap.size, 0, none⟩) 1 1) 1 (lstr word ns 0)) := (row_of_blk (n := 1) (Blk.new w 9 #[.string word]) (Nat.le_refl _) rfl (by unfold maxLen; omega)).2
  have HB0 : Hid (Below w.heap.size w (w.alloc (.cells #[.string word] 9))) := below_new _ _
  generalize w.alloc (.cells #[.string word] 9) = w2 at *
  have HP0 : Hid (∃ (A : Option Addr) (c : Nat), Value.slice (some ⟨w.heap.size, 0, none⟩) 1 1 = .slice A 1 c) := ⟨_, _, rfl⟩
  go_loopw [12, 5] (fun iv ov wr => ∃ (k : Nat) (A2 : Option Addr) (c2 : Nat), k ≤ ns.length ∧ iv = .int .i64 (k : Int) ∧ ov = .slice A2 (k + 1) c2 ∧ Hid (wr.ownsRow w.heap.size 9 1 (.slice A2 (k + 1) c2) (k + 1) (lstr word ns k)) ∧ Hid (Below w.heap.size w wr)) (fun iv _ _ => ns.length - (intOf iv).toNat)
  case atStart => exact ⟨0, _, _, Nat.zero_le _, rfl, rfl, HQ0.out, HB0.out⟩
  case round =>
    clear HQ0 HB0 HP0
    obtain ⟨k, A2, c2, hk, rfl, rfl, HO, HB⟩ := hrel
    have hk0 : (0 : Int) ≤ (k : Int) := by omega
    have hk5 : (k : Int) ≤ 10 := by omega
    by_cases hkn : k < ns.length
    · have hd1 : decide (k < ns.length) = true := decide_eq_true hkn
      have hd2 : decide ((k : Int) < (ns.length : Int)) = true := decide_eq_true (by omega)
      have hkn1 : (k : Int) < (ns.length : Int) := by omega
      obtain ⟨b, o, eA, hb, hcc⟩ := HC.out (by omega)
      subst eA
      have c1 : wr.cell? ⟨b, o + k, none⟩ = some (.int .i64 ns[k]) := (HB.out.cell (p := ⟨b, o + k, none⟩) hb).trans (hcc k _ (List.getElem?_eq_getElem hkn))
      have CF := Lib.hid (fmt_any ns[k] wr (HNS.out k hkn) (HT.out _ HB.out))
      have HTK := Lib.hid (lstr_succ (word := word) hkn)
      generalize ns[k] = x at *
      have HK1 : Hid (k ≤ 10) := by show k ≤ 10; omega
      clear hcc hb
      go_wp2_with fail
      refine CF.out.mono ?_
      rintro e w3 ⟨rfl, d3⟩
      have HO3 := Lib.hid (own_below HO.out d3)
      have HB3 := Lib.hid (chain0 HB.out d3)
      clear d3 HO HB c1 CF
      generalize decS x = s at *
      go_wp2_with (at_builtin; refine wpList_append_own _ rfl _ _ 141 rfl w.heap.size 9 j0 _ 1 16 Tryd.underlying141 hj0 hy0 hy1 hy2 rfl (by decide) (.slice A2 (k + 1) c2) (k + 1) _ rfl (HO3.out.alloc _) ⟨w3.heap.size, 0, none⟩ 1 1 [.string s] rfl rfl (cells_new w3 _ _) (by intro u hu; simp at hu; subst hu; rfl) (by have := HK1.out; unfold maxLen; omega) (by have := HK1.out; omega) (by have := HB3.out.size; simp; omega) ?_)
      intro v' w4 hown hgr _
      obtain ⟨A5, c5, rfl⟩ := Gn.own_form hown
      have O5 : Hid (w4.ownsRow w.heap.size 9 1 (.slice A5 (k + 1 + 1) c5) (k + 1 + 1) (lstr word ns (k + 1))) := by show World.ownsRow _ _ _ _ _ _ _; rw [HTK.out]; exact hown
      have B5 : Hid (Below w.heap.size w w4) := (HB3.out.alloc HB3.out.size _).grown hgr (by have := HB3.out.size; simp; omega) (fun q hq => (HO3.out.lt q hq).1)
      clear hown hgr HO3 HB3
      go_wp2_with fail
      go_roundw
      case rel => exact ⟨k + 1, A5, c5, hkn, by go_num, rfl, O5.out, B5.out⟩
      case measure => simp [intOf]; omega
    · obtain rfl : k = ns.length := by omega
      have hd1 : decide (ns.length < ns.length) = false := decide_eq_false (Nat.lt_irrefl _)
      have hd2 : decide ((ns.length : Int) < (ns.length : Int)) = false := decide_eq_false (Int.lt_irrefl _)
      have HO2 := HO.out
      rw [lstr_all] at HO2
      obtain ⟨xs, hxs⟩ : ∃ xs, xs = word :: ns.map decS := ⟨_, rfl⟩
      have hxl : xs.length = ns.length + 1 := by rw [hxs]; simp
      rw [← hxs] at HO2
      have HO3 : Hid (wr.ownsRow w.heap.size 9 1 (.slice A2 (ns.length + 1) c2) xs.length (Cat.strs xs)) := by rw [hxl]; exact HO2
      have SJ := Lib.hid (strs_read HO3.out (by omega))
      obtain ⟨g5, c5, hv5, hlt5, hcc, hcells⟩ := SJ.out
      injection hv5 with h1 h2 h3
      subst h1 h3
      have HCE := Lib.hid hcells
      have HJL : Hid ((Lib.join (xs.map (·.data.toList)) (⟨#[32]⟩ : ByteArray).data.toList).length ≤ 140737488355328) := by
        rw [hxs]
        have h2 := HLEN.out
        exact Nat.le_trans HLL.out (by omega)
      have CJ := Lib.hid (Tryd.strings_Join g5 0 c2 xs ⟨#[32]⟩ wr HCE.out hlt5 (by omega) hcc HJL.out)
      rw [hxl] at CJ
      have HLS : Hid ((⟨(Lib.join (xs.map (·.data.toList)) (⟨#[32]⟩ : ByteArray).data.toList).toArray⟩ : ByteArray) ++ ⟨#[10]⟩ = lineS word ns) := by rw [hxs]; rfl
      have hsz : (⟨(Lib.join (xs.map (·.data.toList)) (⟨#[32]⟩ : ByteArray).data.toList).toArray⟩ : ByteArray).size ≤ 1000 := by
        show ((Lib.join _ _).toArray).size ≤ _
        rw [List.size_toArray, hxs]
        have h2 := HLEN.out
        exact Nat.le_trans HLL.out (by omega)
      have HAD := Lib.hid (fun W => Am.add_small ⟨(Lib.join (xs.map (·.data.toList)) (⟨#[32]⟩ : ByteArray).data.toList).toArray⟩ ⟨#[10]⟩ (by omega) (by show 1 ≤ 2000; omega) W)
      generalize (⟨(Lib.join (xs.map (·.data.toList)) (⟨#[32]⟩ : ByteArray).data.toList).toArray⟩ : ByteArray) = J at *
      clear hxs hxl HO2 HO3 hcells hcc h2 hk hsz SJ HLL
      have had := HAD.out
      go_wp2_with fail
      refine CJ.out.mono ?_
      rintro e w5 ⟨rfl, d5⟩
      have B5 := Lib.hid (chain0 HB.out d5)
      clear d5
      go_wp2_with fail
      go_ret
      exact ⟨by rw [← HLS.out]; rfl, B5.out⟩
end Go.Proofs.YtfopmaeaclbknaaDoor.Pr
