/- An expression without its addresses; Same of two equal ones; Weigh. Printed by gen_ex7.py. -/
import Derived.Test.YtjjlhihocllgjaaDoorEx3
namespace Go.Proofs.YtjjlhihocllgjaaDoor.Ex
open Go.ChangeShapes Go.WideShapes Go.ChangeAt Go.RowKit Gn Cat Lex
set_option linter.unusedVariables false
set_option linter.unusedSimpArgs false
attribute [local go_sem] later_cell
/-- an expression -/
inductive X where
  | mk (op : Int) (want : List Int) (value : Int) (args : List X)
def n6 (p : Nat → Int) : List Int := [p 0, p 1, p 2, p 3, p 4, p 5]
def xF : Nat → Tree → X
  | 0, _ => .mk 0 [] 0 []
  | d + 1, t => .mk t.op (n6 t.want) t.value (t.args.map (xF d))
theorem n6_eq {p q : Nat → Int} (h : n6 p = n6 q) : ∀ k, k < 6 → p k = q k := by
  unfold n6 at h
  injection h with h0 h
  injection h with h1 h
  injection h with h2 h
  injection h with h3 h
  injection h with h4 h
  injection h with h5 h
  intro k hk
  obtain rfl | rfl | rfl | rfl | rfl | rfl : k = 0 ∨ k = 1 ∨ k = 2 ∨ k = 3 ∨ k = 4 ∨ k = 5 := by omega
  all_goals assumption
theorem xF_parts {d d' : Nat} {a b : Tree} (h : xF (d + 1) a = xF (d' + 1) b) : a.op = b.op ∧ n6 a.want = n6 b.want ∧ a.value = b.value ∧ a.args.map (xF d) = b.args.map (xF d') := by
  injection h with h1 h2 h3 h4
  exact ⟨h1, h2, h3, h4⟩
abbrev TrueP (w : World) : Ending → World → Prop := fun r w' => r = .returned (.bool true) ∧ Below w.heap.size w w'
set_option maxHeartbeats 4000000 in
set_option maxRecDepth 100000 in
theorem same_yes (d : Nat) : ∀ (d' : Nat) (a b : Tree) (B : Nat) (w : World), In d B w a → In d' B w b → B ≤ w.heap.size → (preF d a).length ≤ 5000 → xF d a = xF d' b → Calls Tryd.prog 13 #[a.val, b.val] w (TrueP w) := by
  induction d with
  | zero => intro d' a b B w h; exact h.elim
  | succ d ih =>
    intro d' a b B w h h' hB hsz hx
    obtain ⟨d', rfl⟩ : ∃ q, d' = q + 1 := ⟨d' - 1, by have := h'.pos; omega⟩
    have hlen : a.args.length ≤ 5000 := by have := args_le h; omega
    have hli : (a.args.length : Int) ≤ 5000 := by omega
    have HPA := Lib.hid (fun x (hx : x ∈ a.args) => pre_arg (d := d) hx)
    have HSZ := Lib.hid hsz
    obtain ⟨e1, e2, e3, e4⟩ := xF_parts hx
    have e5 : b.args.length = a.args.length := by have := congrArg List.length e4; simpa using this.symm
    have q6 := eq27 a.want b.want
    rw [(eq6_iff a.want b.want).2 (n6_eq e2)] at q6
    unfold arr at q6
    obtain ⟨_, _, h3, h4⟩ := h
    obtain ⟨_, _, g3, g4⟩ := h'
    have HI := Lib.hid (fun k (hk : k < a.args.length) (hk2 : k < b.args.length) W (q : Below w.heap.size w W) => ih d' a.args[k] b.args[k] B W ((h4 _ (List.getElem_mem hk)).keep (q.mono hB)) ((g4 _ (List.getElem_mem hk2)).keep (q.mono hB)) (Nat.le_trans hB q.size) (by have h5 := HPA.out _ (List.getElem_mem hk); have := HSZ.out; omega) (by
      have h6 := congrArg (fun l => l[k]?) e4
      simp only [List.getElem?_map, List.getElem?_eq_getElem hk, List.getElem?_eq_getElem hk2, Option.map_some] at h6
      exact Option.some.inj h6))
    obtain ⟨A, hA⟩ : ∃ A, A = a.a := ⟨_, rfl⟩
    obtain ⟨C, hC⟩ : ∃ C, C = b.a := ⟨_, rfl⟩
    rw [← hA] at h3
    rw [← hC, e5] at g3
    have HR := Lib.hid h3
    have HR' := Lib.hid g3
    have HB := Lib.hid hB
    have HE5 := Lib.hid e5
    have hz1 : (w.alloc (.cells #[.int .i64 a.op, .int .i64 (a.want 0), .int .i64 (a.want 1), .int .i64 (a.want 2), .int .i64 (a.want 3), .int .i64 (a.want 4), .int .i64 (a.want 5), .int .i64 a.value, .slice A a.args.length a.c] 27)).heap.size = w.heap.size + 1 := World.size_alloc _ _
    have BX := Lib.hid ((below_new w (.cells #[.int .i64 a.op, .int .i64 (a.want 0), .int .i64 (a.want 1), .int .i64 (a.want 2), .int .i64 (a.want 3), .int .i64 (a.want 4), .int .i64 (a.want 5), .int .i64 a.value, .slice A a.args.length a.c] 27)).alloc (below_new w (.cells #[.int .i64 a.op, .int .i64 (a.want 0), .int .i64 (a.want 1), .int .i64 (a.want 2), .int .i64 (a.want 3), .int .i64 (a.want 4), .int .i64 (a.want 5), .int .i64 a.value, .slice A a.args.length a.c] 27)).size (.cells #[.int .i64 a.op, .int .i64 (b.want 0), .int .i64 (b.want 1), .int .i64 (b.want 2), .int .i64 (b.want 3), .int .i64 (b.want 4), .int .i64 (b.want 5), .int .i64 a.value, .slice C a.args.length b.c] 27))
    have KA := Lib.hid ((Blk.new w 27 #[.int .i64 a.op, .int .i64 (a.want 0), .int .i64 (a.want 1), .int .i64 (a.want 2), .int .i64 (a.want 3), .int .i64 (a.want 4), .int .i64 (a.want 5), .int .i64 a.value, .slice A a.args.length a.c]).alloc (.cells #[.int .i64 a.op, .int .i64 (b.want 0), .int .i64 (b.want 1), .int .i64 (b.want 2), .int .i64 (b.want 3), .int .i64 (b.want 4), .int .i64 (b.want 5), .int .i64 a.value, .slice C a.args.length b.c] 27))
    have kb := Blk.new (w.alloc (.cells #[.int .i64 a.op, .int .i64 (a.want 0), .int .i64 (a.want 1), .int .i64 (a.want 2), .int .i64 (a.want 3), .int .i64 (a.want 4), .int .i64 (a.want 5), .int .i64 a.value, .slice A a.args.length a.c] 27)) 27 #[.int .i64 a.op, .int .i64 (b.want 0), .int .i64 (b.want 1), .int .i64 (b.want 2), .int .i64 (b.want 3), .int .i64 (b.want 4), .int .i64 (b.want 5), .int .i64 a.value, .slice C a.args.length b.c]
    rw [hz1] at kb
    have KB := Lib.hid kb
    have t1 : (a.op != a.op) = false := by simp
    have t2 : (a.value != a.value) = false := by simp
    have t3 : ((a.args.length : Int) != (a.args.length : Int)) = false := by simp
    unfold Tree.val
    rw [← hA, ← hC, ← e1, ← e3, e5]
    clear ih h3 h4 g3 g4 hB hsz HPA hlen hA hC e1 e2 e3 e4 e5 hx kb hz1
    go_enter Tryd.func13, Tryd.ntmps13
    have z0 := KA.out.cell 0
    have z1 := KA.out.cell 1
    have z2 := KA.out.cell 2
    have z3 := KA.out.cell 3
    have z4 := KA.out.cell 4
    have z5 := KA.out.cell 5
    have z6 := KA.out.cell 6
    have z7 := KA.out.cell 7
    have z8 := KA.out.cell 8
    have y0 := KB.out.cell 0
    have y1 := KB.out.cell 1
    have y2 := KB.out.cell 2
    have y3 := KB.out.cell 3
    have y4 := KB.out.cell 4
    have y5 := KB.out.cell 5
    have y6 := KB.out.cell 6
    have y7 := KB.out.cell 7
    have y8 := KB.out.cell 8
    go_wp2_with fail
    clear z0 z1 z2 z3 z4 z5 z6 z7 z8 y0 y1 y2 y3 y4 y5 y6 y7 y8 t1 t2 t3 q6
    go_loopw [5] (fun iv wr => ∃ k : Nat, k ≤ a.args.length ∧ iv = .int .i64 (k : Int) ∧ Hid (Below w.heap.size w wr) ∧ Hid (Blk wr w.heap.size 27 #[.int .i64 a.op, .int .i64 (a.want 0), .int .i64 (a.want 1), .int .i64 (a.want 2), .int .i64 (a.want 3), .int .i64 (a.want 4), .int .i64 (a.want 5), .int .i64 a.value, .slice A a.args.length a.c]) ∧ Hid (Blk wr (w.heap.size + 1) 27 #[.int .i64 a.op, .int .i64 (b.want 0), .int .i64 (b.want 1), .int .i64 (b.want 2), .int .i64 (b.want 3), .int .i64 (b.want 4), .int .i64 (b.want 5), .int .i64 a.value, .slice C a.args.length b.c])) (fun iv _ => a.args.length - (intOf iv).toNat)
    case atStart => exact ⟨0, Nat.zero_le _, rfl, BX.out, KA.out, KB.out⟩
    case round =>
      clear BX KA KB
      obtain ⟨k, hk, rfl, HW, KA, KB⟩ := hrel
      have hk0 : (0 : Int) ≤ (k : Int) := by omega
      have z8 := KA.out.cell 8
      have zl := KA.out.lt
      by_cases hkn : k < a.args.length
      · have hd1 : decide (k < a.args.length) = true := decide_eq_true hkn
        have hd2 : decide ((k : Int) < (a.args.length : Int)) = true := decide_eq_true (by omega)
        have hkn1 : (k : Int) < (a.args.length : Int) := by omega
        have hk2 : k < b.args.length := by rw [HE5.out]; exact hkn
        obtain ⟨b1, o1, r1, hb1, hrow1⟩ := HR.out (by omega)
        obtain ⟨b2, o2, r2, hb2, hrow2⟩ := HR'.out (by omega)
        have hat := tree_at (Row.keepB hrow1 hb1 (HW.out.mono HB.out)) k hkn
        have hat2 := tree_at (Row.keepB hrow2 hb2 (HW.out.mono HB.out)) k hk2
        have hbr : b1 < wr.heap.size := Nat.lt_of_lt_of_le hb1 (Nat.le_trans HB.out HW.out.size)
        have hbr2 : b2 < wr.heap.size := Nat.lt_of_lt_of_le hb2 (Nat.le_trans HB.out HW.out.size)
        have HIK := Lib.hid (HI.out k hkn hk2)
        generalize a.args[k] = x at *
        generalize b.args[k] = y at *
        have y8 := KB.out.cell 8
        have yl := KB.out.lt
        have FS := Lib.hid (fun q => HIK.out (later wr q) (chain0 HW.out (later_below wr q)))
        unfold Tree.val at FS
        clear hrow1 hrow2 hb1 hb2 HIK
        subst r1 r2
        go_wp2_with fail
        refine wp_region_later (by kernel_rfl) (by kernel_rfl) ?_
        repeat (first | go_big_quiet_step ((go_at_call 13; exact calls_later (FS.out _))) | quiet_step ((go_at_call 13; exact calls_later (FS.out _))))
        refine wpQuiet_nil ?_
        rintro _ ⟨q, rfl⟩
        have HW2 := Lib.hid (chain0 HW.out (later_below wr q))
        have KA2 := Lib.hid (KA.out.below' (later_below wr q))
        have KB2 := Lib.hid (KB.out.below' (later_below wr q))
        clear FS z8 zl y8 yl hat hat2 hbr hbr2
        generalize later wr q = w2 at *
        go_wp2_with fail
        go_roundw
        case rel => exact ⟨k + 1, hkn, by go_num, HW2.out, KA2.out, KB2.out⟩
        case measure => simp [intOf]; omega
      · obtain rfl : k = a.args.length := by omega
        have hd1 : decide (a.args.length < a.args.length) = false := decide_eq_false (Nat.lt_irrefl _)
        have hd2 : decide ((a.args.length : Int) < (a.args.length : Int)) = false := decide_eq_false (Int.lt_irrefl _)
        go_wp2_with fail
        go_ret
        exact ⟨rfl, HW.out⟩
theorem pre_len {d B : Nat} {w : World} {e : Tree} (h : In d B w e) : 0 < (preF d e).length := by
  obtain ⟨q, rfl⟩ : ∃ q, d = q + 1 := ⟨d - 1, by have := h.pos; omega⟩
  exact Nat.succ_pos _
theorem flat_ge : ∀ {l : List Tree} {d : Nat}, (∀ x ∈ l, 0 < (preF d x).length) → l.length ≤ (l.flatMap (preF d)).length
  | [], _, _ => Nat.le_refl _
  | a :: l, d, h => by
    have h1 := flat_ge (l := l) fun x hx => h x (List.mem_cons_of_mem _ hx)
    have h2 := h a List.mem_cons_self
    rw [List.flatMap_cons, List.length_append, List.length_cons]
    omega
set_option maxHeartbeats 4000000 in
set_option maxRecDepth 100000 in
theorem weigh_any (d : Nat) : ∀ (e : Tree) (m : Nat) (B : Nat) (w : World), In d B w e → B ≤ w.heap.size → 1 ≤ m → m ≤ 1000 → Calls Tryd.prog 8 #[e.val, .int .i64 (m : Int)] w fun r w' => r = .returned (.int .i64 ((min (preF d e).length m : Nat) : Int)) ∧ Below w.heap.size w w' := by
  induction d with
  | zero => intro e m B w h; exact h.elim
  | succ d ih =>
    intro e m B w h hB hm1 hm2
    obtain ⟨_, _, h3, h4⟩ := h
    have HI := Lib.hid (fun x (hx : x ∈ e.args) (m : Nat) (h1 : 1 ≤ m) (h2 : m ≤ 1000) W (k : Below w.heap.size w W) => ih x m B W ((h4 x hx).keep (k.mono hB)) (Nat.le_trans hB k.size) h1 h2)
    have HGE := Lib.hid (fun k => flat_ge (l := e.args.take k) (d := d) fun x hx => pre_len (h4 x (List.mem_of_mem_take hx)))
    have HSN := Lib.hid (fun k (hk : k < e.args.length) => flat_snoc (preF d) e.args k hk)
    have HTO := Lib.hid (fun k => (show ((e.args.take k).flatMap (preF d)).length ≤ (e.args.flatMap (preF d)).length by
      conv => rhs; rw [← List.take_append_drop k e.args, List.flatMap_append, List.length_append]
      omega))
    have HPE : Hid ((preF (d + 1) e).length = (e.args.flatMap (preF d)).length + 1) := rfl
    obtain ⟨A, hA⟩ : ∃ A, A = e.a := ⟨_, rfl⟩
    rw [← hA] at h3
    have HR := Lib.hid h3
    have HB := Lib.hid hB
    have BX := Lib.hid (below_new w (.cells #[.int .i64 e.op, .int .i64 (e.want 0), .int .i64 (e.want 1), .int .i64 (e.want 2), .int .i64 (e.want 3), .int .i64 (e.want 4), .int .i64 (e.want 5), .int .i64 e.value, .slice A e.args.length e.c] 27))
    have KX := Lib.hid (Blk.new w 27 #[.int .i64 e.op, .int .i64 (e.want 0), .int .i64 (e.want 1), .int .i64 (e.want 2), .int .i64 (e.want 3), .int .i64 (e.want 4), .int .i64 (e.want 5), .int .i64 e.value, .slice A e.args.length e.c])
    have hmi : (m : Int) ≤ 1000 := by omega
    have HM1 := Lib.hid hm1
    obtain ⟨R, hR⟩ : ∃ R, R = min (preF (d + 1) e).length m := ⟨_, rfl⟩
    have HRR := Lib.hid hR
    rw [← hR]
    unfold Tree.val
    rw [← hA]
    clear ih h3 h4 hB hA hR
    go_enter Tryd.func8, Tryd.ntmps8
    go_wp2_with fail
    go_loopw [6, 5] (fun iv nv wr => ∃ (k n : Nat), k ≤ e.args.length ∧ iv = .int .i64 (k : Int) ∧ nv = .int .i64 (n : Int) ∧ Hid (n = min (((e.args.take k).flatMap (preF d)).length + 1) m) ∧ Hid (Below w.heap.size w wr) ∧ Hid (Blk wr w.heap.size 27 #[.int .i64 e.op, .int .i64 (e.want 0), .int .i64 (e.want 1), .int .i64 (e.want 2), .int .i64 (e.want 3), .int .i64 (e.want 4), .int .i64 (e.want 5), .int .i64 e.value, .slice A e.args.length e.c])) (fun iv _ _ => e.args.length - (intOf iv).toNat)
    case atStart => exact ⟨0, 1, Nat.zero_le _, rfl, rfl, (by show 1 = min (0 + 1) m; omega), BX.out, KX.out⟩
    case round =>
      clear BX KX
      obtain ⟨k, n, hk, rfl, rfl, HN, HW, HK⟩ := hrel
      have hk0 : (0 : Int) ≤ (k : Int) := by omega
      have z8 := HK.out.cell 8
      have zl := HK.out.lt
      have hn9 : (n : Int) ≤ 1000 := by have := HN.out; omega
      by_cases hkn : k < e.args.length
      · have hd1 : decide (k < e.args.length) = true := decide_eq_true hkn
        have hd2 : decide ((k : Int) < (e.args.length : Int)) = true := decide_eq_true (by omega)
        have hkn1 : (k : Int) < (e.args.length : Int) := by omega
        by_cases hnm : n < m
        · have hd3 : decide (n < m) = true := decide_eq_true hnm
          have hd4 : decide ((n : Int) < (m : Int)) = true := decide_eq_true (by omega)
          obtain ⟨b, o, e1, hb, hrow⟩ := HR.out (by omega)
          have hat := tree_at (Row.keepB hrow hb (HW.out.mono HB.out)) k hkn
          have hbr : b < wr.heap.size := Nat.lt_of_lt_of_le hb (Nat.le_trans HB.out HW.out.size)
          obtain ⟨q, hq⟩ : ∃ q : Nat, q + n = m := ⟨m - n, by omega⟩
          have HIK := Lib.hid (HI.out e.args[k] (List.getElem_mem hkn) q (by omega) (by omega))
          have HSK := Lib.hid (congrArg List.length (HSN.out k hkn))
          have hks : (k : Int) ≤ 1000 := by have h5 := HGE.out k; have := HN.out; rw [List.length_take] at h5; omega
          generalize e.args[k] = x at *
          have wd : IntKind.i64.wrap ((m : Int) - (n : Int)) = (q : Int) := by rw [IntWalk.i64_in _ (by omega)]; omega
          obtain ⟨lx, hlx⟩ : ∃ lx, lx = (preF d x).length := ⟨_, rfl⟩
          rw [← hlx] at HIK
          have HN2 : Hid (n + min lx q = min (((e.args.take (k + 1)).flatMap (preF d)).length + 1) m) := by
            have h5 := HSK.out
            rw [List.length_append, ← hlx] at h5
            show _ = _
            rw [h5]
            have := HN.out
            omega
          have HQ := Lib.hid hq
          have wd2 : IntKind.i64.wrap ((n : Int) + ((min lx q : Nat) : Int)) = ((n + min lx q : Nat) : Int) := by rw [IntWalk.i64_in _ (by omega)]; omega
          generalize min lx q = mq at *
          unfold Tree.val at HIK
          clear hrow hb hnm hq hlx
          subst e1
          go_wp2_with fail
          refine (HIK.out _ HW.out).mono ?_
          rintro r w2 ⟨rfl, d2⟩
          have HW2 := Lib.hid (chain0 HW.out d2)
          have HK2 := Lib.hid (HK.out.below' d2)
          clear d2 hat hbr z8 zl HW HK HIK
          go_wp2_with fail
          go_roundw
          case rel => exact ⟨k + 1, n + mq, hkn, by go_num, by first | rfl | (congr 1; omega), HN2.out, HW2.out, HK2.out⟩
          case measure => simp [intOf]; omega
        · have hd3 : decide (n < m) = false := decide_eq_false hnm
          have hd4 : decide ((n : Int) < (m : Int)) = false := decide_eq_false (by omega)
          have HV : Hid (R = m ∧ n = m) := by
            have h5 := HTO.out k
            have h6 := HPE.out
            have h7 := HN.out
            have h8 := HRR.out
            show R = m ∧ n = m
            omega
          obtain ⟨rfl, rfl⟩ := HV.out
          clear hnm HV
          go_wp2_with fail
          go_ret
          exact ⟨by first | rfl | (congr 2; omega), HW.out⟩
      · obtain rfl : k = e.args.length := by omega
        have hd1 : decide (e.args.length < e.args.length) = false := decide_eq_false (Nat.lt_irrefl _)
        have hd2 : decide ((e.args.length : Int) < (e.args.length : Int)) = false := decide_eq_false (Int.lt_irrefl _)
        have HV : Hid (R = min n m) := by
          have h6 := HPE.out
          have h7 := HN.out
          rw [List.take_length] at h7
          have h8 := HRR.out
          show R = min n m
          omega
        go_wp2_with fail
        go_ret
        exact ⟨by rw [HV.out, show ((min n m : Nat) : Int) = min (n : Int) (m : Int) by omega]; rfl, HW.out⟩

end Go.Proofs.YtjjlhihocllgjaaDoor.Ex
