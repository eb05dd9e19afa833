/- An expression without its addresses; Same of two equal ones; Weigh. Printed by gen_ex7.py. -/
import Derived.Test.YtjjlhihocllgjaaGreatDoorEx3
namespace Go.Proofs.YtjjlhihocllgjaaGreatDoor.Ex
open Go.ChangeShapes Go.WideShapes Go.ChangeAt Go.RowKit Gn Cat Lex
set_option linter.unusedVariables false
set_option linter.unusedSimpArgs false
attribute [local go_sem] later_cell
/-- an expression -/
inductive X where
  | mk (op : Int) (want : List Int) (value : Int) (args : List X)
def n6 (p : Nat → Int) : List Int := [p 0, p 1, p 2, p 3, p 4, p 5]
def xF : Nat → Tree → X
  | 0, _ => .mk 0 [] 0 []
  | d + 1, t => .mk t.op (n6 t.want) t.value (t.args.map (xF d))
theorem n6_eq {p q : Nat → Int} (h : n6 p = n6 q) : ∀ k, k < 6 → p k = q k := by
  unfold n6 at h
  injection h with h0 h
  injection h with h1 h
  injection h with h2 h
  injection h with h3 h
  injection h with h4 h
  injection h with h5 h
  intro k hk
  obtain rfl | rfl | rfl | rfl | rfl | rfl : k = 0 ∨ k = 1 ∨ k = 2 ∨ k = 3 ∨ k = 4 ∨ k = 5 := by omega
  all_goals assumption
theorem xF_parts {d d' : Nat} {a b : Tree} (h : xF (d + 1) a = xF (d' + 1) b) : a.op = b.op ∧ n6 a.want = n6 b.want ∧ a.value = b.value ∧ a.args.map (xF d) = b.args.map (xF d') := by
  injection h with h1 h2 h3 h4
  exact ⟨h1, h2, h3, h4⟩
abbrev TrueP (w : World) : Ending → World → Prop := fun r w' => r = .returned (.bool true) ∧ Below w.heap.size w w'
set_option maxHeartbeats 4000000 in
set_option maxRecDepth 100000 in
theorem same_yes (d : Nat) : ∀ (d' : Nat) (a b : Tree) (B : Nat) (w : World), In d B w a → In d' B w b → B ≤ w.heap.size → (preF d a).length ≤ 5000 → xF d a = xF d' b → Calls Tryz.prog 13 #[a.val, b.val] w (TrueP w) := by
  induction d with
  | zero => intro d' a b B w h; exact h.elim
  | succ d ih =>
    intro d' a b B w h h' hB hsz hx
    obtain ⟨d', rfl⟩ : ∃ q, d' = q + 1 := ⟨d' - 1, by have := h'.pos; omega⟩
    have hlen : a.args.length ≤ 5000 := by have := args_le h; omega
    have hli : (a.args.length : Int) ≤ 5000 := by omega
    have HPA := Lib.hid (fun x (hx : x ∈ a.args) => pre_arg (d := d) hx)
    have HSZ := Lib.hid hsz
    obtain ⟨e1, e2, e3, e4⟩ := xF_parts hx
    have e5 : b.args.length = a.args.length := by have := congrArg List.length e4; simpa using this.symm
    have q6 := eq27 a.want b.want
    rw [(eq6_iff a.want b.want).2 (n6_eq e2)] at q6
    unfold arr at q6
    obtain ⟨_, _, h3, h4⟩ := h
    obtain ⟨_, _, g3, g4⟩ := h'
    have HI := Lib.hid (fun k (hk : k < a.args.length) (hk2 : k < b.args.length) W (q : Below w.heap.size w W) => ih d' a.args[k] b.args[k] B W ((h4 _ (List.getElem_mem hk)).keep (q.mono hB)) ((g4 _ (List.getElem_mem hk2)).keep (q.mono hB)) (Nat.le_trans hB q.size) (by have h5 := HPA.out _ (List.getElem_mem hk); have := HSZ.out; omega) (by
      have h6 := congrArg (fun l => l[k]?) e4
      simp only [List.getElem?_map, List.getElem?_eq_getElem hk, List.getElem?_eq_getElem hk2, Option.map_some] at h6
      exact Option.some.inj h6))
    obtain ⟨A, hA⟩ : ∃ A, A = a.a := ⟨_, rfl⟩
    obtain ⟨C, hC⟩ : ∃ C, C = b.a := ⟨_, rfl⟩
    rw [← hA] at h3
    rw [← hC, e5] at g3
    have HR := Lib.hid h3
    have HR' := Lib.hid g3
    have HB := Lib.hid hB
    have HE5 := Lib.hid e5
    have hz1 : (w.alloc (.cells #[.int .i64 a.op, .int .i64 (a.want 0), .int .i64 (a.want 1), .int .i64 (a.want 2), .int .i64 (a.want 3), .int .i64 (a.want 4), .int .i64 (a.want 5), .int .i64 a.value, .slice A a.args.length a.c] 28)).heap.size = w.heap.size + 1 := World.size_alloc _ _
    have BX := Lib.hid ((below_new w (.cells #[.int .i64 a.op, .int .i64 (a.want 0), .int .i64 (a.want 1), .int .i64 (a.want 2), .int .i64 (a.want 3), .int .i64 (a.want 4), .int .i64 (a.want 5), .int .i64 a.value, .slice A a.args.length a.c] 28)).alloc (below_new w (.cells #[.int .i64 a.op, .int .i64 (a.want 0), .int .i64 (a.want 1), .int .i64 (a.want 2), .int .i64 (a.want 3), .int .i64 (a.want 4), .int .i64 (a.want 5), .int .i64 a.value, .slice A a.args.length a.c] 28)).size (.cells #[.int .i64 a.op, .int .i64 (b.want 0), .int .i64 (b.want 1), .int .i64 (b.want 2), .int .i64 (b.want 3), .int .i64 (b.want 4), .int .i64 (b.want 5), .int .i64 a.value, .slice C a.args.length b.c] 28))
    have KA := Lib.hid ((Blk.new w 28 #[.int .i64 a.op, .int .i64 (a.want 0), .int .i64 (a.want 1), .int .i64 (a.want 2), .int .i64 (a.want 3), .int .i64 (a.want 4), .int .i64 (a.want 5), .int .i64 a.value, .slice A a.args.length a.c]).alloc (.cells #[.int .i64 a.op, .int .i64 (b.want 0), .int .i64 (b.want 1), .int .i64 (b.want 2), .int .i64 (b.want 3), .int .i64 (b.want 4), .int .i64 (b.want 5), .int .i64 a.value, .slice C a.args.length b.c] 28))
    have kb := Blk.new (w.alloc (.cells #[.int .i64 a.op, .int .i64 (a.want 0), .int .i64 (a.want 1), .int .i64 (a.want 2), .int .i64 (a.want 3), .int .i64 (a.want 4), .int .i64 (a.want 5), .int .i64 a.value, .slice A a.args.length a.c] 28)) 28 #[.int .i64 a.op, .int .i64 (b.want 0), .int .i64 (b.want 1), .int .i64 (b.want 2), .int .i64 (b.want 3), .int .i64 (b.want 4), .int .i64 (b.want 5), .int .i64 a.value, .slice C a.args.length b.c]
    rw [hz1] at kb
    have KB := Lib.hid kb
    have t1 : (a.op != a.op) = false := by simp
    have t2 : (a.value != a.value) = false := by simp
    have t3 : ((a.args.length : Int) != (a.args.length : Int)) = false := by simp
    unfold Tree.val
    rw [← hA, ← hC, ← e1, ← e3, e5]
    clear ih h3 h4 g3 g4 hB hsz HPA hlen hA hC e1 e2 e3 e4 e5 hx kb hz1
    go_enter Tryz.func13, Tryz.ntmps13
    have z0 := KA.out.cell 0
    have z1 := KA.out.cell 1
    have z2 := KA.out.cell 2
    have z3 := KA.out.cell 3
    have z4 := KA.out.cell 4
    have z5 := KA.out.cell 5
    have z6 := KA.out.cell 6
    have z7 := KA.out.cell 7
    have z8 := KA.out.cell 8
    have y0 := KB.out.cell 0
    have y1 := KB.out.cell 1
    have y2 := KB.out.cell 2
    have y3 := KB.out.cell 3
    have y4 := KB.out.cell 4
    have y5 := KB.out.cell 5
    have y6 := KB.out.cell 6
    have y7 := KB.out.cell 7
    have y8 := KB.out.cell 8
    go_wp2_with fail
    clear z0 z1 z2 z3 z4 z5 z6 z7 z8 y0 y1 y2 y3 y4 y5 y6 y7 y8 t1 t2 t3 q6
    go_loopw [5] (fun iv wr => ∃ k : Nat, k ≤ a.args.length ∧ iv = .int .i64 (k : Int) ∧ Hid (Below w.heap.size w wr) ∧ Hid (Blk wr w.heap.size 28 #[.int .i64 a.op, .int .i64 (a.want 0), .int .i64 (a.want 1), .int .i64 (a.want 2), .int .i64 (a.want 3), .int .i64 (a.want 4), .int .i64 (a.want 5), .int .i64 a.value, .slice A a.args.length a.c]) ∧ Hid (Blk wr (w.heap.size + 1) 28 #[.int .i64 a.op, .int .i64 (b.want 0), .int .i64 (b.want 1), .int .i64 (b.want 2), .int .i64 (b.want 3), .int .i64 (b.want 4), .int .i64 (b.want 5), .int .i64 a.value, .slice C a.args.length b.c])) (fun iv _ => a.args.length - (intOf iv).toNat)
    case atStart => exact ⟨0, Nat.zero_le _, rfl, BX.out, KA.out, KB.out⟩
    case round =>
      clear BX KA KB
      obtain ⟨k, hk, rfl, HW, KA, KB⟩ := hrel
      have hk0 : (0 : Int) ≤ (k : Int) := by omega
      have z8 := KA.out.cell 8
      have zl := KA.out.lt
      by_cases hkn : k < a.args.length
      · have hd1 : decide (k < a.args.length) = true := decide_eq_true hkn
        have hd2 : decide ((k : Int) < (a.args.length : Int)) = true := decide_eq_true (by omega)
        have hkn1 : (k : Int) < (a.args.length : Int) := by omega
        have hk2 : k < b.args.length := by rw [HE5.out]; exact hkn
        obtain ⟨b1, o1, r1, hb1, hrow1⟩ := HR.out (by omega)
        obtain ⟨b2, o2, r2, hb2, hrow2⟩ := HR'.out (by omega)
        have hat := tree_at (Row.keepB hrow1 hb1 (HW.out.mono HB.out)) k hkn
        have hat2 := tree_at (Row.keepB hrow2 hb2 (HW.out.mono HB.out)) k hk2
        have hbr : b1 < wr.heap.size := Nat.lt_of_lt_of_le hb1 (Nat.le_trans HB.out HW.out.size)
        have hbr2 : b2 < wr.heap.size := Nat.lt_of_lt_of_le hb2 (Nat.le_trans HB.out HW.out.size)
        have HIK := Lib.hid (HI.out k hkn hk2)
        generalize a.args[k] = x at *
        generalize b.args[k] = y at *
        have y8 := KB.out.cell 8
        have yl := KB.out.lt
        have FS := Lib.hid (fun q => HIK.out (later wr q) (chain0 HW.out (later_below wr q)))
        unfold Tree.val at FS
        clear hrow1 hrow2 hb1 hb2 HIK
        subst r1 r2
        go_wp2_with fail
        refine wp_region_later (by kernel_rfl) (by kernel_rfl) ?_
        repeat (first | go_big_quiet_step ((go_at_call 13; exact calls_later (FS.out _))) | quiet_step ((go_at_call 13; exact calls_later (FS.out _))))
        refine wpQuiet_nil ?_
        rintro _ ⟨q, rfl⟩
        have HW2 := Lib.hid (chain0 HW.out (later_below wr q))
        have KA2 := Lib.hid (KA.out.below' (later_below wr q))
        have KB2 := Lib.hid (KB.out.below' (later_below wr q))
        clear FS z8 zl y8 yl hat hat2 hbr hbr2
        generalize later wr q = w2 at *
        go_wp2_with fail
        go_roundw
        case rel => exact ⟨k + 1, hkn, by go_num, HW2.out, KA2.out, KB2.out⟩
        case measure => simp [intOf]; omega
      · obtain rfl : k = a.args.length := by omega
        have hd1 : decide (a.args.length < a.args.length) = false := decide_eq_false (Nat.lt_irrefl _)
        have hd2 : decide ((a.args.length : Int) < (a.args.length : Int)) = false := decide_eq_false (Int.lt_irrefl _)
        go_wp2_with fail
        go_ret
        exact ⟨rfl, HW.out⟩
theorem pre_len {d B : Nat} {w : World} {e : Tree} (h : In d B w e) : 0 < (preF d e).length := by
  obtain ⟨q, rfl⟩ : ∃ q, d = q + 1 := ⟨d - 1, by have := h.pos; omega⟩
  exact Nat.succ_pos _
theorem flat_ge : ∀ {l : List Tree} {d : Nat}, (∀ x ∈ l, 0 < (preF d x).length) → l.length ≤ (l.flatMap (preF d)).length
  | [], _, _ => Nat.le_refl _
  | a :: l, d, h => by
    have h1 := flat_ge (l := l) fun x hx => h x (List.mem_cons_of_mem _ hx)
    have h2 := h a List.mem_cons_self
    rw [List.flatMap_cons, List.length_append, List.length_cons]
    omega
end Go.Proofs.YtjjlhihocllgjaaGreatDoor.Ex
